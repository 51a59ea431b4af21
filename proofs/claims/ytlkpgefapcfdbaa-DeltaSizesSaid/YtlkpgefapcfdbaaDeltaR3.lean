/- Walks: chapter 33's document: Apply. -/
import Derived.Test.YtlkpgefapcfdbaaDeltaR2
namespace Go.Proofs.Ytlkpgefapcfdbaa
open Go.RowKit
set_option linter.unusedVariables false
/-- a text and an error's number -/
def applyV (r : List UInt8 × Nat) : Value := .tuple #[.string ⟨r.1.toArray⟩, .int .i64 (r.2 : Nat)]
theorem applyV_o (o : ByteArray) : applyV (o.data.toList, 0) = .tuple #[.string o, .int .i64 0] := by unfold applyV; simp
theorem rdHead_lt (d : List UInt8) (a b : Nat) (s r : List UInt8) (h : rdHead d = some (a, b, s, r)) : a < 18446744073709551616 ∧ b < 18446744073709551616 ∧ s.length = 4 := by
  have h1 := (vTake_lt d).1
  have h2 := (vTake_lt (d.drop (vTake d).2.1)).1
  unfold rdHead at h
  split at h
  · cases h
  · split at h
    · cases h
    · rename_i hn
      injection h with h
      injection h with h3 h4
      injection h4 with h4 h5
      injection h5 with h5 h6
      refine ⟨by omega, by omega, ?_⟩
      rw [← h5, List.length_take]
      omega
set_option maxHeartbeats 1000000 in
theorem refApply_any (base s : ByteArray) (hb : base.size ≤ 1000000) (hs : s.size ≤ 1000000) (w : World) :
    Calls Try.prog 11 #[.string base, .string s] w fun e w' => e = .returned (applyV (apD base.data.toList s.data.toList)) ∧ Below w.heap.size w w' := by
  have hh := fun w => refHead_any s (by omega) w
  have hbl : base.data.toList.length = base.size := by simp
  have hv : apD base.data.toList s.data.toList = apD base.data.toList s.data.toList := rfl
  conv at hv => rhs; unfold apD
  cases hr : rdHead s.data.toList with
  | none =>
    rw [hr] at hh hv
    have HH := Lib.hid hh; clear hh
    have HV := Lib.hid hv; clear hv hr
    go_enter Try.func11, Try.ntmps11
    go_wp2_with fail
    refine (HH.out _).mono ?_
    rintro e w1 ⟨rfl, b1⟩
    unfold headV
    go_wp2
    go_ret2
    rw [HV.out]
    exact ⟨rfl, b1⟩
  | some r =>
    obtain ⟨a, b, sum, rest⟩ := r
    have hrl : rest.length ≤ s.size := rdHead_le _ _ _ _ _ hr
    have hrs : (⟨rest.toArray⟩ : ByteArray).size = rest.length := List.size_toArray
    obtain ⟨ha1, hb1, hs4⟩ := rdHead_lt _ _ _ _ _ hr
    rw [hr] at hh hv
    dsimp only at hv
    rw [hbl] at hv
    have HH := Lib.hid hh; clear hh hr
    by_cases hab : a = base.size
    · rw [if_neg (by omega)] at hv
      subst hab
      by_cases hm : b > 65536
      · rw [if_pos hm] at hv
        have HV := Lib.hid hv; clear hv
        have hm' : (65536 : Int) < (b : Int) := by omega
        go_enter Try.func11, Try.ntmps11
        go_wp2_with fail
        refine (HH.out _).mono ?_
        rintro e w1 ⟨rfl, b1⟩
        unfold headV
        go_wp2
        go_ret2
        rw [HV.out]
        exact ⟨rfl, b1⟩
      · rw [if_neg hm] at hv
        have HV := Lib.hid hv; clear hv
        have hm' : (b : Int) ≤ (65536 : Int) := by omega
        go_enter Try.func11, Try.ntmps11
        go_wp2_with fail
        refine (HH.out _).mono ?_
        rintro e w1 ⟨rfl, b1⟩
        unfold headV
        go_wp2_with fail
        go_loopw [11, 9] (fun v11 v9 wr => ∃ (f : Nat) (o t : ByteArray), v11 = .string o ∧ v9 = .string t ∧ (t.size ≤ s.size ∧ t.size < f ∧ o.size ≤ b) ∧ Hid (apD base.data.toList s.data.toList = apP base.data.toList b sum f t.data.toList o.data.toList) ∧ Hid (Below w.heap.size w wr)) (fun _ v9 _ => strLen v9)
        case atStart => exact ⟨rest.length + 1, ⟨#[]⟩, ⟨rest.toArray⟩, rfl, rfl, ⟨by rw [hrs]; exact hrl, by rw [hrs]; exact Nat.lt_succ_self _, Nat.zero_le _⟩, HV, Lib.hid b1⟩
        case round =>
          obtain ⟨f, o, t, rfl, rfl, ⟨h1, h2, h3⟩, HZ, HB⟩ := hrel
          have HP := Lib.hid (fun w => refPart_any t (by omega) w)
          have hlt := rdPart_lt t.data.toList
          have htl : t.data.toList.length = t.size := by simp
          have hol : o.data.toList.length = o.size := by simp
          obtain ⟨f, rfl⟩ : ∃ g, f = g + 1 := ⟨f - 1, by omega⟩
          by_cases h0 : t.data.toList = []
          · have ht : t.toList.isEmpty = true := by rw [ByteArray.toList_eq, h0]; rfl
            have hz := HZ.out
            rw [h0, apP, if_pos rfl, hol] at hz
            clear hlt htl hol HZ
            by_cases hob : o.size < b
            · rw [if_pos hob] at hz
              have HE := Lib.hid hz; clear hz
              have hob' : (o.size : Int) < (b : Int) := by omega
              go_wp2_with fail
              go_ret2
              rw [HE.out]
              exact ⟨rfl, HB.out⟩
            · rw [if_neg hob] at hz
              have hob' : (b : Int) ≤ (o.size : Int) := by omega
              have HS := Lib.hid (fun w => refCrcSum_any o w (by unfold maxLen; omega))
              have HC := Lib.hid (fun w => refCrcBytes_any (crcMore 0 o.data.toList) w)
              generalize crcMore 0 o.data.toList = c at *
              by_cases hq : crcBytes c = sum
              · rw [if_neg (by simp [hq])] at hz
                have hq' : ((⟨(crcBytes c).toArray⟩ : ByteArray).toList == sum) = true := by rw [hq, ByteArray.toList_eq]; simp
                have HE := Lib.hid hz; clear hz hq
                generalize (⟨(crcBytes c).toArray⟩ : ByteArray) = cb at *
                go_wp2_with fail
                refine (HS.out _).mono ?_
                rintro e w2 ⟨rfl, rfl⟩
                go_wp2_with fail
                refine (HC.out _).mono ?_
                rintro e w2 ⟨rfl, b2⟩
                have HB2 := Lib.hid (HB.out.trans (b2.mono HB.out.size))
                clear b2 HB
                go_wp2
                go_ret2
                rw [HE.out, applyV_o]
                exact ⟨rfl, HB2.out⟩
              · rw [if_pos hq] at hz
                have hq' : ((⟨(crcBytes c).toArray⟩ : ByteArray).toList == sum) = false := by rw [ByteArray.toList_eq]; simpa using hq
                have HE := Lib.hid hz; clear hz hq
                generalize (⟨(crcBytes c).toArray⟩ : ByteArray) = cb at *
                go_wp2_with fail
                refine (HS.out _).mono ?_
                rintro e w2 ⟨rfl, rfl⟩
                go_wp2_with fail
                refine (HC.out _).mono ?_
                rintro e w2 ⟨rfl, b2⟩
                have HB2 := Lib.hid (HB.out.trans (b2.mono HB.out.size))
                clear b2 HB
                go_wp2
                go_ret2
                rw [HE.out]
                exact ⟨rfl, HB2.out⟩
          · have ht : t.toList.isEmpty = false := by rw [ByteArray.toList_eq, List.isEmpty_eq_false_iff]; exact h0
            have HY := HZ.out
            rw [apP, if_neg h0] at HY
            clear HZ
            cases hr2 : rdPart t.data.toList with
            | none =>
              rw [hr2] at HP HY
              have HE := Lib.hid HY; clear HY
              clear hlt htl hr2
              go_wp2_with fail
              refine (HP.out _).mono ?_
              rintro e w2 ⟨rfl, b2⟩
              have HB2 := Lib.hid (HB.out.trans (b2.mono HB.out.size))
              clear b2 HB
              unfold partV
              go_wp2
              go_ret2
              rw [HE.out]
              exact ⟨rfl, HB2.out⟩
            | some q =>
              obtain ⟨q, more⟩ := q
              rw [hr2] at HP HY
              have hml := hlt q more hr2
              rw [htl] at hml
              have hms : (⟨more.toArray⟩ : ByteArray).size = more.length := List.size_toArray
              clear hlt htl hr2
              cases q with
              | lit l =>
                dsimp only at HY
                rw [hol] at HY
                by_cases hl : l.length > b - o.size
                · rw [if_pos hl] at HY
                  have HE := Lib.hid HY; clear HY
                  have hl' : (b : Int) - (o.size : Int) < (l.length : Int) := by omega
                  go_wp2_with fail
                  refine (HP.out _).mono ?_
                  rintro e w2 ⟨rfl, b2⟩
                  have HB2 := Lib.hid (HB.out.trans (b2.mono HB.out.size))
                  clear b2 HB
                  unfold partV
                  go_wp2
                  go_ret2
                  rw [HE.out]
                  exact ⟨rfl, HB2.out⟩
                · rw [if_neg hl] at HY
                  have HE := Lib.hid HY; clear HY
                  have hl' : (l.length : Int) ≤ (b : Int) - (o.size : Int) := by omega
                  have hls : (⟨l.toArray⟩ : ByteArray).size = l.length := List.size_toArray
                  go_wp2_with fail
                  refine (HP.out _).mono ?_
                  rintro e w2 ⟨rfl, b2⟩
                  have HB2 := Lib.hid (HB.out.trans (b2.mono HB.out.size))
                  clear b2 HB
                  unfold partV
                  have hap : (o ++ (⟨l.toArray⟩ : ByteArray)).data.toList = o.data.toList ++ l := by simp
                  have HAP := Lib.hid hap; clear hap
                  go_wp2_with fail
                  exact ⟨⟨f, o ++ ⟨l.toArray⟩, ⟨more.toArray⟩, rfl, rfl, ⟨by rw [hms]; omega, by rw [hms]; omega, by rw [ByteArray.size_append, hls]; omega⟩, by unfold Hid; rw [HE.out, HAP.out], HB2⟩, by simp only [strLen]; rw [hms]; omega⟩
              | cop n k =>
                dsimp only at HY
                rw [hol, hbl] at HY
                by_cases hk : k > base.size
                · rw [if_pos (.inl hk)] at HY
                  have HE := Lib.hid HY; clear HY
                  have hk' : (base.size : Int) < (k : Int) := by omega
                  go_wp2_with fail
                  refine (HP.out _).mono ?_
                  rintro e w2 ⟨rfl, b2⟩
                  have HB2 := Lib.hid (HB.out.trans (b2.mono HB.out.size))
                  clear b2 HB
                  unfold partV
                  go_wp2
                  go_ret2
                  rw [HE.out]
                  exact ⟨rfl, HB2.out⟩
                · have hk' : (k : Int) ≤ (base.size : Int) := by omega
                  by_cases hn : n > base.size - k
                  · rw [if_pos (.inr (.inl hn))] at HY
                    have HE := Lib.hid HY; clear HY
                    have hn' : (base.size : Int) - (k : Int) < (n : Int) := by omega
                    go_wp2_with fail
                    refine (HP.out _).mono ?_
                    rintro e w2 ⟨rfl, b2⟩
                    have HB2 := Lib.hid (HB.out.trans (b2.mono HB.out.size))
                    clear b2 HB
                    unfold partV
                    go_wp2
                    go_ret2
                    rw [HE.out]
                    exact ⟨rfl, HB2.out⟩
                  · have hn' : (n : Int) ≤ (base.size : Int) - (k : Int) := by omega
                    by_cases hz : n > b - o.size
                    · rw [if_pos (.inr (.inr hz))] at HY
                      have HE := Lib.hid HY; clear HY
                      have hz' : (b : Int) - (o.size : Int) < (n : Int) := by omega
                      go_wp2_with fail
                      refine (HP.out _).mono ?_
                      rintro e w2 ⟨rfl, b2⟩
                      have HB2 := Lib.hid (HB.out.trans (b2.mono HB.out.size))
                      clear b2 HB
                      unfold partV
                      go_wp2
                      go_ret2
                      rw [HE.out]
                      exact ⟨rfl, HB2.out⟩
                    · rw [if_neg (by omega)] at HY
                      have HE := Lib.hid HY; clear HY
                      have hz' : (n : Int) ≤ (b : Int) - (o.size : Int) := by omega
                      have hkn : k + n ≤ base.size := by omega
                      have hkn' : (k : Int) + (n : Int) ≤ (base.size : Int) := by omega
                      have hls : (base.extract k (k + n)).size = n := by rw [ByteArray.size_extract]; omega
                      have hap : (o ++ base.extract k (k + n)).data.toList = o.data.toList ++ textP base.data.toList (.cop n k) := by rw [mid_list]; simp [textP]
                      have HAP := Lib.hid hap; clear hap
                      have HLS := Lib.hid hls; clear hls
                      go_wp2_with fail
                      refine (HP.out _).mono ?_
                      rintro e w2 ⟨rfl, b2⟩
                      have HB2 := Lib.hid (HB.out.trans (b2.mono HB.out.size))
                      clear b2 HB
                      unfold partV
                      go_wp2_with fail
                      exact ⟨⟨f, o ++ base.extract k (k + n), ⟨more.toArray⟩, rfl, rfl, ⟨by rw [hms]; omega, by rw [hms]; omega, by rw [ByteArray.size_append, HLS.out]; omega⟩, by unfold Hid; rw [HE.out, HAP.out], HB2⟩, by simp only [strLen]; rw [hms]; omega⟩
    · rw [if_pos hab] at hv
      have HV := Lib.hid hv; clear hv
      have hab' : ((a : Int) != (base.size : Int)) = true := by simp; omega
      go_enter Try.func11, Try.ntmps11
      go_wp2_with fail
      refine (HH.out _).mono ?_
      rintro e w1 ⟨rfl, b1⟩
      unfold headV
      go_wp2
      go_ret2
      rw [HV.out]
      exact ⟨rfl, b1⟩
end Go.Proofs.Ytlkpgefapcfdbaa
