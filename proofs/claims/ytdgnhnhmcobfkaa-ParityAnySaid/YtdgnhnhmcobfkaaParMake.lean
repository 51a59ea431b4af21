/- Make and Same of both packages: walks. -/
import Derived.Test.YtdgnhnhmcobfkaaParMatrix
namespace Go.Proofs.Ytdgnhnhmcobfkaa
open Go.RowKit
set_option linter.unusedVariables false
set_option linter.unusedSimpArgs false
/-- which error Make tells -/
def makeE (l : List ByteArray) (p : Int) : Int := if (fewN l.length && fewN p) = true then (if evenL l = true then 0 else 2) else 4
def makeL (l : List ByteArray) (p : Int) : List ByteArray := if makeE l p = 0 then timesL (matL l.length p) l else []
theorem makeE_0 {l : List ByteArray} {p : Int} (h1 : (fewN l.length && fewN p) = true) (h2 : evenL l = true) : makeE l p = 0 := by unfold makeE; rw [if_pos h1, if_pos h2]
theorem makeE_2 {l : List ByteArray} {p : Int} (h1 : (fewN l.length && fewN p) = true) (h2 : evenL l = false) : makeE l p = 2 := by unfold makeE; rw [if_pos h1, if_neg (by rw [h2]; simp)]
theorem makeE_4 {l : List ByteArray} {p : Int} (h1 : (fewN l.length && fewN p) = false) : makeE l p = 4 := by unfold makeE; rw [if_neg (by rw [h1]; simp)]
theorem makeL_0 {l : List ByteArray} {p : Int} (h : makeE l p = 0) : makeL l p = timesL (matL l.length p) l := by unfold makeL; rw [if_pos h]
theorem makeL_n {l : List ByteArray} {p : Int} (h : makeE l p ≠ 0) : makeL l p = [] := by unfold makeL; rw [if_neg h]
set_option maxRecDepth 20000 in
set_option maxHeartbeats 2000000 in
theorem make_any (w : World) (va : Value) (l : List ByteArray) (p : Int) (ha : StrsB w va l) (hsz : firstN l ≤ 1000000000) :
    Calls Try.prog 34 #[va, .int .i64 p] w fun e w' => ∃ v, e = .returned (.tuple #[v, .int .i64 (makeE l p)]) ∧ StrsN w' v (makeL l p) ∧ Below w.heap.size w w' := by
  have HK := Lib.hid (fun w => pfew_any l.length w)
  have HP := Lib.hid (fun w => pfew_any p w)
  have HE := Lib.hid (peven_any w va l ha)
  have HA := Lib.hid ha
  have HSZ := Lib.hid hsz
  obtain ⟨A, c, rfl, h1, h2⟩ := ha.len
  clear ha hsz h1 h2
  cases hk : fewN l.length with
  | false =>
    rw [hk] at HK
    have h4 : makeE l p = 4 := makeE_4 (by rw [hk]; rfl)
    have HL := Lib.hid (makeL_n (l := l) (p := p) (by rw [h4]; decide))
    rw [h4]
    clear hk h4 HE
    go_enter Try.func34, Try.ntmps34
    go_wp2_with fail
    refine (HK.out _).mono ?_
    rintro e w' ⟨rfl, rfl⟩
    go_wp2_with fail
    go_ret2
    exact ⟨_, rfl, by rw [HL.out]; exact strsN_nil _, Below.refl _ _⟩
  | true =>
    rw [hk] at HK
    cases hp : fewN p with
    | false =>
      rw [hp] at HP
      have h4 : makeE l p = 4 := makeE_4 (by rw [hk, hp]; rfl)
      have HL := Lib.hid (makeL_n (l := l) (p := p) (by rw [h4]; decide))
      rw [h4]
      clear hk hp h4 HE
      go_enter Try.func34, Try.ntmps34
      go_wp2_with fail
      refine (HK.out _).mono ?_
      rintro e w' ⟨rfl, rfl⟩
      go_wp2_with fail
      refine (HP.out _).mono ?_
      rintro e w' ⟨rfl, rfl⟩
      go_wp2_with fail
      go_ret2
      exact ⟨_, rfl, by rw [HL.out]; exact strsN_nil _, Below.refl _ _⟩
    | true =>
      rw [hp] at HP
      have hkp : (fewN l.length && fewN p) = true := by rw [hk, hp]; rfl
      cases he : evenL l with
      | false =>
        rw [he] at HE
        have h4 : makeE l p = 2 := makeE_2 hkp he
        have HL := Lib.hid (makeL_n (l := l) (p := p) (by rw [h4]; decide))
        rw [h4]
        clear hk hp h4 he hkp
        go_enter Try.func34, Try.ntmps34
        go_wp2_with fail
        refine (HK.out _).mono ?_
        rintro e w' ⟨rfl, rfl⟩
        go_wp2_with fail
        refine (HP.out _).mono ?_
        rintro e w' ⟨rfl, rfl⟩
        go_wp2_with fail
        refine HE.out.mono ?_
        rintro e w1 ⟨rfl, b1⟩
        have HW := Lib.hid b1
        clear b1
        go_wp2_with fail
        go_ret2
        exact ⟨_, rfl, by rw [HL.out]; exact strsN_nil _, HW.out⟩
      | true =>
        rw [he] at HE
        have h4 : makeE l p = 0 := makeE_0 hkp he
        have HL := Lib.hid (makeL_0 h4)
        rw [h4]
        have HM := Lib.hid (fun w => matrix_any l.length p w)
        clear hk hp h4 he hkp
        go_enter Try.func34, Try.ntmps34
        go_wp2_with fail
        refine (HK.out _).mono ?_
        rintro e w' ⟨rfl, rfl⟩
        go_wp2_with fail
        refine (HP.out _).mono ?_
        rintro e w' ⟨rfl, rfl⟩
        go_wp2_with fail
        refine HE.out.mono ?_
        rintro e w1 ⟨rfl, b1⟩
        have HW := Lib.hid b1
        clear b1
        go_wp2_with fail
        refine (HM.out _).mono ?_
        rintro e w2 ⟨v2, rfl, s2, b2⟩
        replace HW := Lib.hid (HW.out.trans (b2.mono HW.out.size))
        have H2 := Lib.hid s2.1
        clear s2 b2 HM
        go_wp2_with fail
        refine (mtimes_any _ v2 _ (matL l.length p) l H2.out (HA.out.below HW.out (Nat.le_refl _)) HSZ.out).mono ?_
        rintro e w3 ⟨v3, rfl, s3, b3⟩
        replace HW := Lib.hid (HW.out.trans (b3.mono HW.out.size))
        have H3 := Lib.hid s3
        clear s3 b3
        go_wp2_with fail
        go_ret2
        exact ⟨_, rfl, by rw [HL.out]; exact H3.out, HW.out⟩
set_option maxRecDepth 20000 in
set_option maxHeartbeats 2000000 in
theorem rmake_any (w : World) (va : Value) (l : List ByteArray) (p : Int) (ha : StrsB w va l) (hsz : firstN l ≤ 1000000000) :
    Calls Try.prog 35 #[va, .int .i64 p] w fun e w' => ∃ v, e = .returned (.tuple #[v, .int .i64 (makeE l p)]) ∧ StrsN w' v (makeL l p) ∧ Below w.heap.size w w' := by
  have HK := Lib.hid (fun w => prfew_any l.length w)
  have HP := Lib.hid (fun w => prfew_any p w)
  have HE := Lib.hid (preven_any w va l ha)
  have HA := Lib.hid ha
  have HSZ := Lib.hid hsz
  obtain ⟨A, c, rfl, h1, h2⟩ := ha.len
  clear ha hsz h1 h2
  cases hk : fewN l.length with
  | false =>
    rw [hk] at HK
    have h4 : makeE l p = 4 := makeE_4 (by rw [hk]; rfl)
    have HL := Lib.hid (makeL_n (l := l) (p := p) (by rw [h4]; decide))
    rw [h4]
    clear hk h4 HE
    go_enter Try.func35, Try.ntmps35
    go_wp2_with fail
    refine (HK.out _).mono ?_
    rintro e w' ⟨rfl, rfl⟩
    go_wp2_with fail
    go_ret2
    exact ⟨_, rfl, by rw [HL.out]; exact strsN_nil _, Below.refl _ _⟩
  | true =>
    rw [hk] at HK
    cases hp : fewN p with
    | false =>
      rw [hp] at HP
      have h4 : makeE l p = 4 := makeE_4 (by rw [hk, hp]; rfl)
      have HL := Lib.hid (makeL_n (l := l) (p := p) (by rw [h4]; decide))
      rw [h4]
      clear hk hp h4 HE
      go_enter Try.func35, Try.ntmps35
      go_wp2_with fail
      refine (HK.out _).mono ?_
      rintro e w' ⟨rfl, rfl⟩
      go_wp2_with fail
      refine (HP.out _).mono ?_
      rintro e w' ⟨rfl, rfl⟩
      go_wp2_with fail
      go_ret2
      exact ⟨_, rfl, by rw [HL.out]; exact strsN_nil _, Below.refl _ _⟩
    | true =>
      rw [hp] at HP
      have hkp : (fewN l.length && fewN p) = true := by rw [hk, hp]; rfl
      cases he : evenL l with
      | false =>
        rw [he] at HE
        have h4 : makeE l p = 2 := makeE_2 hkp he
        have HL := Lib.hid (makeL_n (l := l) (p := p) (by rw [h4]; decide))
        rw [h4]
        clear hk hp h4 he hkp
        go_enter Try.func35, Try.ntmps35
        go_wp2_with fail
        refine (HK.out _).mono ?_
        rintro e w' ⟨rfl, rfl⟩
        go_wp2_with fail
        refine (HP.out _).mono ?_
        rintro e w' ⟨rfl, rfl⟩
        go_wp2_with fail
        refine HE.out.mono ?_
        rintro e w1 ⟨rfl, n1, rfl⟩
        have HW : Hid (Below w.heap.size w (w.drewN n1)) := Below.drewN (Below.refl _ _) _
        go_wp2_with fail
        go_ret2
        exact ⟨_, rfl, by rw [HL.out]; exact strsN_nil _, HW.out⟩
      | true =>
        rw [he] at HE
        have h4 : makeE l p = 0 := makeE_0 hkp he
        have HL := Lib.hid (makeL_0 h4)
        rw [h4]
        have HM := Lib.hid (fun w => rmatrix_any l.length p w)
        clear hk hp h4 he hkp
        go_enter Try.func35, Try.ntmps35
        go_wp2_with fail
        refine (HK.out _).mono ?_
        rintro e w' ⟨rfl, rfl⟩
        go_wp2_with fail
        refine (HP.out _).mono ?_
        rintro e w' ⟨rfl, rfl⟩
        go_wp2_with fail
        refine HE.out.mono ?_
        rintro e w1 ⟨rfl, n1, rfl⟩
        have HW : Hid (Below w.heap.size w (w.drewN n1)) := Below.drewN (Below.refl _ _) _
        go_wp2_with fail
        refine (HM.out _).mono ?_
        rintro e w2 ⟨v2, rfl, s2, b2⟩
        replace HW := Lib.hid (HW.out.trans (b2.mono HW.out.size))
        have H2 := Lib.hid s2.1
        clear s2 b2 HM
        go_wp2_with fail
        refine (mrtimes_any _ v2 _ (matL l.length p) l H2.out (HA.out.below HW.out (Nat.le_refl _)) HSZ.out).mono ?_
        rintro e w3 ⟨v3, rfl, s3, b3⟩
        replace HW := Lib.hid (HW.out.trans (b3.mono HW.out.size))
        have H3 := Lib.hid s3
        clear s3 b3
        go_wp2_with fail
        go_ret2
        exact ⟨_, rfl, by rw [HL.out]; exact H3.out, HW.out⟩
set_option maxRecDepth 20000 in
theorem psame_self (w : World) (va vb : Value) (l : List ByteArray) (ha : StrsB w va l) (hb : StrsB w vb l) :
    Calls Try.prog 29 #[va, vb] w fun e w' => e = .returned (.bool true) ∧ ∃ n, w' = w.drewN n := by
  have HS := Lib.hid (same_self w va vb l ha hb)
  clear ha hb
  go_enter Try.func29, Try.ntmps29
  go_wp2_with fail
  refine HS.out.mono ?_
  rintro e w' ⟨rfl, n, rfl⟩
  go_wp2_with fail
  go_ret
  exact ⟨rfl, n, rfl⟩
end Go.Proofs.Ytdgnhnhmcobfkaa
