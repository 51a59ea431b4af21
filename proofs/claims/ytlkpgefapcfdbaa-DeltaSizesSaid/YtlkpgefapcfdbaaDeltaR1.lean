/- Walks: chapter 33's document: a delta's head and its next part. -/
import Derived.Test.YtlkpgefapcfdbaaDeltaRead
import Derived.Test.YtlkpgefapcfdbaaCrcWalk
import Derived.Deep.QuietTactic
import Derived.BigQuiet
import Derived.BigRegion
namespace Go.Proofs.Ytlkpgefapcfdbaa
open Go.RowKit
set_option linter.unusedVariables false
/-- a part as the document's function tells it -/
def partV : Option (Part × List UInt8) → Value
  | none => .tuple #[.bool false, .int .u64 0, .int .u64 0, .string ⟨#[]⟩, .string ⟨#[]⟩, .bool false]
  | some (.lit b, r) => .tuple #[.bool false, .int .u64 (b.length : Nat), .int .u64 0, .string ⟨b.toArray⟩, .string ⟨r.toArray⟩, .bool true]
  | some (.cop n k, r) => .tuple #[.bool true, .int .u64 (n : Nat), .int .u64 (k : Nat), .string ⟨#[]⟩, .string ⟨r.toArray⟩, .bool true]
theorem below_drewN (w : World) (n : Nat) : Below w.heap.size w (w.drewN n) := by
  have h : ∀ B, Below B w (w.drewN 0) := fun B => Below.refl B w
  induction n with
  | zero => exact Below.refl _ _
  | succ n ih => exact Below.drew ih
theorem part_cop {x y : Int} {u : ByteArray} {n k : Nat} {r : List UInt8} (h1 : x = (n : Nat)) (h2 : y = (k : Nat)) (h3 : u = ⟨r.toArray⟩) : Ending.returned (.tuple #[.bool true, .int .u64 x, .int .u64 y, .string ⟨#[]⟩, .string u, .bool true]) = .returned (partV (some (.cop n k, r))) := by rw [h1, h2, h3]; rfl
theorem part_lit {x : Int} {u v : ByteArray} {b r : List UInt8} (h1 : x = (b.length : Nat)) (h2 : u = ⟨b.toArray⟩) (h3 : v = ⟨r.toArray⟩) : Ending.returned (.tuple #[.bool false, .int .u64 x, .int .u64 0, .string u, .string v, .bool true]) = .returned (partV (some (.lit b, r))) := by rw [h1, h2, h3]; rfl
theorem from_list (s : ByteArray) (k : Nat) : s.extract k s.size = ⟨(s.data.toList.drop k).toArray⟩ := by
  apply ByteArray.ext
  apply Array.toList_inj.1
  rw [Lib.extract_data]
  simp [List.take_of_length_le]
theorem to_list (s : ByteArray) (k : Nat) : s.extract 0 k = ⟨(s.data.toList.take k).toArray⟩ := by
  apply ByteArray.ext
  apply Array.toList_inj.1
  rw [Lib.extract_data]
  simp
theorem results_tmp6 {fn : Func} {t u v x y z : Tmp} (h : fn.results = #[.tmp t, .tmp u, .tmp v, .tmp x, .tmp y, .tmp z]) (tmps : Array Value) (P : Program) (w : World) :
    (results fn tmps).run P w = .ok (.tuple #[tmps.getD t undef, tmps.getD u undef, tmps.getD v undef, tmps.getD x undef, tmps.getD y undef, tmps.getD z undef]) w := by
  simp [results, h]
theorem results_tmp5 {fn : Func} {t u v x y : Tmp} (h : fn.results = #[.tmp t, .tmp u, .tmp v, .tmp x, .tmp y]) (tmps : Array Value) (P : Program) (w : World) :
    (results fn tmps).run P w = .ok (.tuple #[tmps.getD t undef, tmps.getD u undef, tmps.getD v undef, tmps.getD x undef, tmps.getD y undef]) w := by
  simp [results, h]
theorem from_data (s : ByteArray) (k : Nat) : (s.extract k s.size).data.toList = s.data.toList.drop k := by rw [from_list]
theorem from_size (s : ByteArray) (k : Nat) : (s.extract k s.size).size = s.size - k := by simp
set_option maxHeartbeats 400000 in
theorem refPart_any (s : ByteArray) (hs : s.size ≤ 140737488351232) (w : World) :
    Calls Try.prog 31 #[.string s] w fun e w' => e = .returned (partV (rdPart s.data.toList)) ∧ Below w.heap.size w w' := by
  have hl : s.data.toList.length = s.size := by simp
  have ht := fun w => refTake_any s (by unfold maxLen; omega) w
  have hle := vTake_le s.data.toList
  have hlt := vTake_lt s.data.toList
  have hv : rdPart s.data.toList = rdPart s.data.toList := rfl
  conv at hv => rhs; unfold rdPart
  generalize vTake s.data.toList = r at *
  obtain ⟨n, k, e⟩ := r
  dsimp only at *
  have HT := Lib.hid ht; clear ht
  by_cases he : e = 0
  · subst he
    obtain ⟨hk, hk1⟩ := hle rfl
    rw [hl] at hk
    by_cases hn : n < 2
    · rw [if_pos (.inr hn)] at hv
      rw [hv]
      clear hv
      have hn' : (n : Int) < 2 := by omega
      go_enter Try.func31, Try.ntmps31
      go_wp2_with fail
      refine (HT.out _).mono ?_
      rintro e w1 ⟨rfl, rfl⟩
      go_wp2
      refine bodyPost_ret (results_tmp6 rfl _ _ _) rfl ?_
      exact ⟨rfl, Below.refl _ _⟩
    · rw [if_neg (by omega)] at hv
      have hn2 : ¬ ((n : Int) < 2) := by omega
      have hn3 : (n : Int) < 18446744073709551616 := by omega
      by_cases ho : n % 2 = 1
      · rw [if_pos ho] at hv
        have ht2 := fun w => refTake_any (s.extract k s.size) (by rw [from_size]; unfold maxLen; omega) w
        have hle2 := vTake_le (s.data.toList.drop k)
        have hlt2 := vTake_lt (s.data.toList.drop k)
        rw [from_data] at ht2
        generalize vTake (s.data.toList.drop k) = r at *
        obtain ⟨n2, k2, e2⟩ := r
        dsimp only at *
        have HT2 := Lib.hid ht2; clear ht2
        have HV := hv; clear hv
        have ho' : (n : Int) % 2 = 1 := by omega
        clear hle hn3 hl ho hn
        by_cases he2 : e2 = 0
        · subst he2
          obtain ⟨hk2, hk3⟩ := hle2 rfl
          rw [List.length_drop, Array.length_toList] at hk2
          have hk2' : k2 ≤ s.size - k := hk2
          rw [if_neg (by simp)] at HV
          replace HV := Lib.hid HV
          have hsz : (s.extract k s.size).size = s.size - k := from_size s k
          have HSE := Lib.hid (from_list s k)
          have HSD := Lib.hid (from_data s k)
          clear hle2 hlt2 hk2
          go_enter Try.func31, Try.ntmps31
          go_wp2_with fail
          refine (HT.out _).mono ?_
          rintro e w1 ⟨rfl, rfl⟩
          go_wp2_with fail
          generalize s.extract k s.size = t at *
          have hk4 : k2 ≤ t.size := by omega
          clear hsz hk2'
          refine (HT2.out _).mono ?_
          rintro e w1 ⟨rfl, rfl⟩
          go_wp2
          go_quiet (fail)
          go_wp2
          refine bodyPost_ret (results_tmp6 rfl _ _ _) rfl ?_
          rw [HV.out]
          exact ⟨part_cop (by omega) rfl (by rw [← HSD.out]; exact from_list t k2), below_drewN _ _⟩
        · rw [if_pos he2] at HV
          replace HV := Lib.hid HV
          clear hle2 hlt2
          have he3 : ((e2 : Int) != 0) = true := by simp; omega
          go_enter Try.func31, Try.ntmps31
          go_wp2_with fail
          refine (HT.out _).mono ?_
          rintro e w1 ⟨rfl, rfl⟩
          go_wp2_with fail
          refine (HT2.out _).mono ?_
          rintro e w1 ⟨rfl, rfl⟩
          go_wp2
          refine bodyPost_ret (results_tmp6 rfl _ _ _) rfl ?_
          rw [HV.out]
          exact ⟨rfl, Below.refl _ _⟩
      · rw [if_neg ho, List.length_drop, hl] at hv
        have ho' : (n : Int) % 2 = 0 := by omega
        have HSE := Lib.hid (from_list s k)
        have HSD := Lib.hid (from_data s k)
        have hsz : (s.extract k s.size).size = s.size - k := from_size s k
        have hd : (n : Int) / 2 = ((n / 2 : Nat) : Int) := by omega
        have HD := Lib.hid hd; clear hd hle hn3 hl ho hn
        by_cases hm : s.size - k < n / 2
        · rw [if_pos hm] at hv
          have HV := Lib.hid hv; clear hv
          have hm' : ((s.extract k s.size).size : Int) < (n : Int) / 2 := by omega
          have hm3 : ((s.size : Int) - (k : Int)) < (n : Int) / 2 := by omega
          go_enter Try.func31, Try.ntmps31
          go_wp2_with fail
          refine (HT.out _).mono ?_
          rintro e w1 ⟨rfl, rfl⟩
          go_wp2
          refine bodyPost_ret (results_tmp6 rfl _ _ _) rfl ?_
          rw [HV.out]
          exact ⟨rfl, Below.refl _ _⟩
        · rw [if_neg hm] at hv
          have HV := Lib.hid hv; clear hv
          have hm' : (n : Int) / 2 ≤ ((s.extract k s.size).size : Int) := by omega
          have hm3 : (n : Int) / 2 ≤ (s.size : Int) - (k : Int) := by omega
          go_enter Try.func31, Try.ntmps31
          go_wp2_with fail
          refine (HT.out _).mono ?_
          rintro e w1 ⟨rfl, rfl⟩
          go_wp2
          go_quiet (fail)
          go_wp2
          refine bodyPost_ret (results_tmp6 rfl _ _ _) rfl ?_
          rw [HV.out]
          rw [← from_size s k]
          exact ⟨part_lit (by rw [List.length_take, ← HSD.out, Array.length_toList]; show _ = ((min (n / 2) (s.extract k s.size).size : Nat) : Int); rw [from_size, Nat.min_eq_left (by omega)]; exact HD.out) (by rw [← HSD.out]; exact to_list _ _) (by rw [← HSD.out]; exact from_list _ _), below_drewN _ _⟩
  · rw [if_pos (.inl he)] at hv
    rw [hv]
    clear hle hv
    have he' : ((e : Int) != 0) = true := by simp; omega
    go_enter Try.func31, Try.ntmps31
    go_wp2_with fail
    refine (HT.out _).mono ?_
    rintro e w1 ⟨rfl, rfl⟩
    go_wp2
    refine bodyPost_ret (results_tmp6 rfl _ _ _) rfl ?_
    exact ⟨rfl, Below.refl _ _⟩
/-- a head as the document's function tells it -/
def headV : Option (Nat × Nat × List UInt8 × List UInt8) → Value
  | none => .tuple #[.int .u64 0, .int .u64 0, .string ⟨#[]⟩, .string ⟨#[]⟩, .bool false]
  | some (a, b, s, r) => .tuple #[.int .u64 (a : Nat), .int .u64 (b : Nat), .string ⟨s.toArray⟩, .string ⟨r.toArray⟩, .bool true]
theorem head_some {u v : ByteArray} {a b : Nat} {s r : List UInt8} (h2 : u = ⟨s.toArray⟩) (h3 : v = ⟨r.toArray⟩) : Ending.returned (.tuple #[.int .u64 (a : Nat), .int .u64 (b : Nat), .string u, .string v, .bool true]) = .returned (headV (some (a, b, s, r))) := by rw [h2, h3]; rfl
theorem mid_list (s : ByteArray) (a n : Nat) : s.extract a (a + n) = ⟨((s.data.toList.drop a).take n).toArray⟩ := by
  apply ByteArray.ext
  apply Array.toList_inj.1
  rw [Lib.extract_data]
  simp
set_option maxHeartbeats 400000 in
theorem refHead_any (s : ByteArray) (hs : s.size ≤ 140737488351232) (w : World) :
    Calls Try.prog 30 #[.string s] w fun e w' => e = .returned (headV (rdHead s.data.toList)) ∧ Below w.heap.size w w' := by
  have hl : s.data.toList.length = s.size := by simp
  have ht := fun w => refTake_any s (by unfold maxLen; omega) w
  have hle := vTake_le s.data.toList
  have hv : rdHead s.data.toList = rdHead s.data.toList := rfl
  conv at hv => rhs; unfold rdHead
  generalize vTake s.data.toList = r at *
  obtain ⟨n, k, e⟩ := r
  dsimp only at *
  have HT := Lib.hid ht; clear ht
  by_cases he : e = 0
  · subst he
    obtain ⟨hk, hk1⟩ := hle rfl
    rw [hl] at hk
    rw [if_neg (by simp)] at hv
    have ht2 := fun w => refTake_any (s.extract k s.size) (by rw [from_size]; unfold maxLen; omega) w
    have hle2 := vTake_le (s.data.toList.drop k)
    rw [from_data] at ht2
    generalize vTake (s.data.toList.drop k) = r at *
    obtain ⟨n2, k2, e2⟩ := r
    dsimp only at *
    have HT2 := Lib.hid ht2; clear ht2 hle
    rw [List.length_drop, List.length_drop, hl] at hv
    rw [List.length_drop, hl] at hle2
    clear hl
    by_cases he2 : e2 = 0
    · subst he2
      obtain ⟨hk2, hk3⟩ := hle2 rfl
      clear hle2
      by_cases h4 : s.size - k - k2 < 4
      · rw [if_pos (.inr h4)] at hv
        have HV := Lib.hid hv; clear hv
        have h5 : (s.size : Int) - (k : Int) - (k2 : Int) < 4 := by omega
        go_enter Try.func30, Try.ntmps30
        go_wp2_with fail
        refine (HT.out _).mono ?_
        rintro e w1 ⟨rfl, rfl⟩
        go_wp2_with fail
        refine (HT2.out _).mono ?_
        rintro e w1 ⟨rfl, rfl⟩
        go_wp2
        refine bodyPost_ret (results_tmp5 rfl _ _ _) rfl ?_
        rw [HV.out]
        exact ⟨rfl, Below.refl _ _⟩
      · rw [if_neg (by omega)] at hv
        have HV := Lib.hid hv; clear hv
        have h5 : (4 : Int) ≤ (s.size : Int) - (k : Int) - (k2 : Int) := by omega
        go_enter Try.func30, Try.ntmps30
        go_wp2_with fail
        refine (HT.out _).mono ?_
        rintro e w1 ⟨rfl, rfl⟩
        go_wp2_with fail
        refine (HT2.out _).mono ?_
        rintro e w1 ⟨rfl, rfl⟩
        go_wp2
        have h6 : (k : Int) + (k2 : Int) + 4 ≤ (s.size : Int) := by omega
        have h7 : k + k2 + 4 ≤ s.size := by omega
        go_quiet (fail)
        go_wp2
        refine bodyPost_ret (results_tmp5 rfl _ _ _) rfl ?_
        rw [HV.out]
        exact ⟨head_some (by rw [List.drop_drop]; exact mid_list s (k + k2) 4) (by rw [List.drop_drop, List.drop_drop]; exact from_list s (k + k2 + 4)), below_drewN _ _⟩
    · rw [if_pos (.inl he2)] at hv
      have HV := Lib.hid hv; clear hv hle2
      have he3 : ((e2 : Int) != 0) = true := by simp; omega
      go_enter Try.func30, Try.ntmps30
      go_wp2_with fail
      refine (HT.out _).mono ?_
      rintro e w1 ⟨rfl, rfl⟩
      go_wp2_with fail
      refine (HT2.out _).mono ?_
      rintro e w1 ⟨rfl, rfl⟩
      go_wp2
      refine bodyPost_ret (results_tmp5 rfl _ _ _) rfl ?_
      rw [HV.out]
      exact ⟨rfl, Below.refl _ _⟩
  · rw [if_pos he] at hv
    rw [hv]
    clear hle hv
    have he' : ((e : Int) != 0) = true := by simp; omega
    go_enter Try.func30, Try.ntmps30
    go_wp2_with fail
    refine (HT.out _).mono ?_
    rintro e w1 ⟨rfl, rfl⟩
    go_wp2
    refine bodyPost_ret (results_tmp5 rfl _ _ _) rfl ?_
    exact ⟨rfl, Below.refl _ _⟩
end Go.Proofs.Ytlkpgefapcfdbaa
