/- siloref17.Scan: its walk. -/
import Derived.Test.YtkbpkodakfknoaaPackAdd
import Derived.Test.YtkbpkodakfknoaaPackScan2
import Derived.Deep.RegionHeld3
namespace Go.Proofs.Ytkbpkodakfknoaa
open Go.RowKit
set_option linter.unusedVariables false
set_option linter.unusedSimpArgs false
theorem SlotsB.drewN {w : World} {v : Value} {l : List Slt} (h : SlotsB w v l) (n : Nat) : SlotsB (w.drewN n) v l := h
theorem extract_32 (t : List UInt8) : ((⟨t.toArray⟩ : ByteArray).extract 32 (⟨t.toArray⟩ : ByteArray).size) = (⟨t.toArray⟩ : ByteArray).extract 32 (⟨t.toArray⟩ : ByteArray).size := rfl
theorem scan_stop {s : List UInt8} {ds : List Frm} {f : Frm} {rest : List Frm} (h : allF s = (ds ++ [f]) ++ rest) (hg : ∀ f ∈ ds, goodT f.2.2 = true) (hb : goodT f.2.2 = false) : scanP s = foldS ds := by
  unfold scanP goods
  rw [h, List.append_assoc, List.singleton_append, takeWhile_stop _ hg hb]
theorem scan_all {s : List UInt8} {ds : List Frm} (h : allF s = ds) (hg : ∀ f ∈ ds, goodT f.2.2 = true) : scanP s = foldS ds := by
  unfold scanP goods
  rw [h, takeWhile_all _ hg]
theorem foldS_end (l : List Frm) (f : Frm) : (foldS (l ++ [f])).2 = f.1 + f.2.1 := by rw [foldS_snoc]; rfl
set_option maxRecDepth 20000 in
set_option maxHeartbeats 4000000 in
theorem rscan_any (s : ByteArray) (hs : s.size ≤ 100000000) (w : World) :
    Calls Try.prog 12 #[.string s] w fun e W' => ∃ v, e = .returned (.tuple #[v, .int .i64 ((scanP s.data.toList).2 : Nat)]) ∧ SlotsB W' v (scanP s.data.toList).1 ∧ Below w.heap.size w W' := by
  go_enter Try.func12, Try.ntmps12
  go_wp2_with fail
  go_loopw [4, 5] (fun v i wr => ∃ (k m : Nat) (ds : List Frm), (k ≤ s.size ∧ s.size ≤ k + m ∧ ds.length ≤ k) ∧ i = .int .i64 k ∧ Hid (allF s.data.toList = ds ++ fFrames m k s.data.toList) ∧ Hid (∀ f ∈ ds, goodT f.2.2 = true) ∧ Hid ((foldS ds).2 = k) ∧ Hid (SlotsB wr v (foldS ds).1) ∧ Hid (Below w.heap.size w wr)) (fun _ i _ => s.size - (intOf i).toNat)
  case atStart => exact ⟨0, s.size, [], ⟨Nat.zero_le _, by omega, Nat.le_refl _⟩, rfl, by unfold Hid allF; simp, fun f hf => by simp at hf, rfl, ⟨none, 0, rfl, Nat.le_refl _, by unfold maxLen; omega, fun h => absurd h (by simp [foldS])⟩, Below.refl _ _⟩
  case round =>
    obtain ⟨k, m, ds, ⟨hk, hm, hd⟩, rfl, HV, HG, HE2, HSL, HBr⟩ := hrel
    have hlen : s.data.toList.length = s.size := by simp
    by_cases hks : k < s.size
    · obtain ⟨m, rfl⟩ : ∃ q, m = q + 1 := ⟨m - 1, by omega⟩
      have ho := refOpen_any (s.extract k s.size) (by simp; omega)
      rw [extract_toP] at ho
      have hlT := fOpen_lenP (s.data.toList.drop k)
      rw [List.length_drop, hlen] at hlT
      obtain ⟨hle, hle2⟩ := fOpen_leP (s.data.toList.drop k)
      have HR : Hid (fFrames (m + 1) k s.data.toList = if (fOpen (s.data.toList.drop k)).2.2 ≠ 0 then [] else (k, (fOpen (s.data.toList.drop k)).2.1, ⟨(fOpen (s.data.toList.drop k)).1.toArray⟩) :: fFrames m (k + (fOpen (s.data.toList.drop k)).2.1) s.data.toList) := by
        unfold Hid; rw [fFrames, if_neg (by omega)]
      rw [List.length_drop, hlen] at hle
      generalize fOpen (s.data.toList.drop k) = r at *
      obtain ⟨t, n', e'⟩ := r
      dsimp only at *
      have hks' : (k : Int) < (s.size : Int) := by omega
      by_cases he : e' = 0
      · subst he
        obtain ⟨hn1, hn2⟩ := hle rfl
        obtain ⟨T, hT⟩ : ∃ T : ByteArray, T = ⟨t.toArray⟩ := ⟨_, rfl⟩
        have hTs : T.size = t.length := by rw [hT]; exact List.size_toArray
        rw [← hT] at ho HR
        have HO := Lib.hid ho
        have hTl : T.size ≤ 100000000 := by omega
        have HE : Hid (allF s.data.toList = (ds ++ [(k, n', T)]) ++ fFrames m (k + n') s.data.toList) := by
          unfold Hid; rw [HV.out, HR.out]; simp
        clear hle hle2 HR ho hT hTs hlT hlen
        by_cases hsh : T.size < 32
        · have hd32 : decide ((T.size : Int) < 32) = true := by simp; omega
          have hbad : goodT T = false := by unfold goodT; rw [decide_eq_false (by omega)]; rfl
          have HF : Hid (scanP s.data.toList = foldS ds) := scan_stop HE.out HG.out hbad
          clear hbad
          go_wp2_with fail
          refine (HO.out _).mono ?_
          rintro e w1 ⟨rfl, b1⟩
          have HB1 := Lib.hid (HBr.out.trans (b1.mono HBr.out.size))
          have HS1 := Lib.hid (HSL.out.below b1 (Nat.le_refl _))
          clear b1 HBr HSL
          go_wp2_with fail
          go_quiet (fail)
          go_wp2_with fail
          go_ret2
          exact ⟨_, by rw [HF.out, HE2.out]; rfl, by rw [HF.out]; exact HS1.out.drewN _, Below.drewN HB1.out _⟩
        · have h32 : ¬ (T.size : Int) < 32 := by omega
          have h32' : (32 : Int) ≤ (T.size : Int) := by omega
          have hd32 : decide ((T.size : Int) < 32) = false := by simp; omega
          have HSm := Lib.hid (fun w => refSum_any (T.extract 32 T.size) w (by rw [ByteArray.size_extract]; omega))
          have HGD : Hid (goodT T = decide (shaSum (T.extract 32 T.size).data.toList = T.extract 0 32)) := by unfold Hid goodT; rw [decide_eq_true (by omega), Bool.true_and]
          generalize hsm : shaSum (T.extract 32 T.size).data.toList = sm at *
          clear hsm
          have hzz : (k : Int) + (n' : Int) ≤ 1000000000 := by omega
          have hz0 : (0 : Int) ≤ (k : Int) + (n' : Int) := by omega
          by_cases hq : sm = T.extract 0 32
          · have hqe : (sm.toList == (T.extract 0 32).toList) = true := by rw [hq]; simp
            have hgood : goodT T = true := by rw [HGD.out]; simpa using hq
            have HG2 : Hid (∀ f ∈ ds ++ [(k, n', T)], goodT f.2.2 = true) := by
              intro f hf
              rcases List.mem_append.1 hf with h | h
              · exact HG.out f h
              · rw [List.mem_singleton.1 h]; exact hgood
            have HF2 : Hid (foldS (ds ++ [(k, n', T)]) = (addS (foldS ds).1 (T.extract 0 32, (k : Int), (n' : Int)), k + n')) := by unfold Hid; rw [foldS_snoc]; rfl
            have hfl : (foldS ds).1.length ≤ 100000000 := by have := foldS_len ds; omega
            have HRI := Lib.hid (foldS_ris ds)
            clear hq hgood HGD HG
            go_wp2_with fail
            refine (HO.out _).mono ?_
            rintro e w1 ⟨rfl, b1⟩
            have HB1 := Lib.hid (HBr.out.trans (b1.mono HBr.out.size))
            have HS1 := Lib.hid (HSL.out.below b1 (Nat.le_refl _))
            clear b1 HBr HSL
            go_wp2_with fail
            go_region_held3 (fun w' => True) (trivial) (first | (go_at_call 19; refine (HSm.out _).mono ?_; rintro e w2 ⟨rfl, b2⟩))
            replace b2 := below_drew0 b2
            have HB2 := Lib.hid (HB1.out.trans (b2.mono HB1.out.size))
            have HS2 := Lib.hid (HS1.out.below b2 (Nat.le_refl _))
            clear b2 HB1 HS1
            go_wp2_with fail
            refine (add_any _ (foldS ds).1 (T.extract 0 32, (k : Int), (n' : Int)) w2 HS2.out HRI.out hfl).mono ?_
            rintro e w3 ⟨v3, rfl, s3, b3⟩
            have HB3 := Lib.hid (HB2.out.trans (b3.mono HB2.out.size))
            have HS3 := Lib.hid s3
            clear s3 b3 HB2 HS2
            go_wp2_with fail
            go_roundw
            case rel => exact ⟨k + n', m, ds ++ [(k, n', T)], ⟨by omega, by omega, by simp; omega⟩, by go_num, HE, HG2, by unfold Hid; rw [HF2.out], by unfold Hid; rw [HF2.out]; exact HS3.out, HB3⟩
            case measure => simp [intOf]; omega
          · have hqe : (sm.toList == (T.extract 0 32).toList) = false := by
              rw [beq_eq_false_iff_ne, toList_data, toList_data]
              exact fun e => hq (ByteArray.ext (Array.toList_inj.1 e))
            have hbad : goodT T = false := by rw [HGD.out]; simpa using hq
            have HF : Hid (scanP s.data.toList = foldS ds) := scan_stop HE.out HG.out hbad
            clear hq hbad HGD HG
            go_wp2_with fail
            refine (HO.out _).mono ?_
            rintro e w1 ⟨rfl, b1⟩
            have HB1 := Lib.hid (HBr.out.trans (b1.mono HBr.out.size))
            have HS1 := Lib.hid (HSL.out.below b1 (Nat.le_refl _))
            clear b1 HBr HSL
            go_wp2_with fail
            go_region_held3 (fun w' => True) (trivial) (first | (go_at_call 19; refine (HSm.out _).mono ?_; rintro e w2 ⟨rfl, b2⟩))
            replace b2 := below_drew0 b2
            have HB2 := Lib.hid (HB1.out.trans (b2.mono HB1.out.size))
            have HS2 := Lib.hid (HS1.out.below b2 (Nat.le_refl _))
            clear b2 HB1 HS1
            go_wp2_with fail
            go_ret2
            exact ⟨_, by rw [HF.out, HE2.out]; rfl, by rw [HF.out]; exact HS2.out, HB2.out⟩
      · have HE : Hid (allF s.data.toList = ds) := by unfold Hid; rw [HV.out, HR.out, if_pos he]; simp
        have he' : ((e' : Int) != 0) = true := by simp; omega
        have HF : Hid (scanP s.data.toList = foldS ds) := scan_all HE.out HG.out
        have HO := Lib.hid ho
        clear hle hle2 HR hlT ho hlen
        go_wp2_with fail
        refine (HO.out _).mono ?_
        rintro e w1 ⟨rfl, b1⟩
        have HB1 := Lib.hid (HBr.out.trans (b1.mono HBr.out.size))
        have HS1 := Lib.hid (HSL.out.below b1 (Nat.le_refl _))
        clear b1 HBr HSL
        go_wp2_with fail
        go_quiet (fail)
        go_wp2_with fail
        go_ret2
        exact ⟨_, by rw [HF.out, HE2.out]; rfl, by rw [HF.out]; exact HS1.out.drewN _, Below.drewN HB1.out _⟩
    · have HE : Hid (allF s.data.toList = ds) := by
        unfold Hid; rw [HV.out]
        cases m with
        | zero => simp [fFrames]
        | succ m => rw [fFrames, if_pos (by omega)]; simp
      have HF : Hid (scanP s.data.toList = foldS ds) := scan_all HE.out HG.out
      clear hlen
      go_wp2_with fail
      go_ret2
      exact ⟨_, by rw [HF.out, HE2.out]; rfl, by rw [HF.out]; exact HSL.out, HBr.out⟩
end Go.Proofs.Ytkbpkodakfknoaa
