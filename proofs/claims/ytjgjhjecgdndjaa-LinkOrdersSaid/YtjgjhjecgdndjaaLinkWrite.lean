/- Frames as bytes, in both packages: walks (written by gen-link-write.py). -/
import Derived.Test.YtjgjhjecgdndjaaLinkPlain
import Derived.Deep.RegionHeld3
import Derived.Test.YtjgjhjecgdndjaaCrcWalk
namespace Go.Proofs.Ytjgjhjecgdndjaa
open Go.RowKit
set_option linter.unusedVariables false
set_option linter.unusedSimpArgs false
def seqB (n : Int) : Bool := decide (0 ≤ n ∧ n ≤ 1073741824)
def Fr (ses : UInt64) (seq ack : Int) (data : ByteArray) : Value := .agg #[.int .u64 ses.toNat, .int .i64 seq, .int .i64 ack, .string data]
theorem cells4 {w : World} {b : Nat} {x y z u : Value} {t : TypeId} (h : w.heap[b]? = some (.cells #[x, y, z, u] t)) : w.cell? ⟨b, 0, none⟩ = some x ∧ w.cell? ⟨b, 1, none⟩ = some y ∧ w.cell? ⟨b, 2, none⟩ = some z ∧ w.cell? ⟨b, 3, none⟩ = some u ∧ ∀ j, w.frozen? ⟨b, j, none⟩ = false := by
  refine ⟨?_, ?_, ?_, ?_, fun j => frozen_of_row w _ j _ _ h⟩
  · unfold World.cell?; simp [h]
  · unfold World.cell?; simp [h]
  · unfold World.cell?; simp [h]
  · unfold World.cell?; simp [h]
/-- a block with these four cells -/
structure Box4 (b : Nat) (x y z u : Value) (w : World) : Prop where
  c0 : w.cell? ⟨b, 0, none⟩ = some x
  c1 : w.cell? ⟨b, 1, none⟩ = some y
  c2 : w.cell? ⟨b, 2, none⟩ = some z
  c3 : w.cell? ⟨b, 3, none⟩ = some u
  lt : b < w.heap.size
theorem Box4.below {b : Nat} {x y z u : Value} {w w' : World} (h : Box4 b x y z u w) (hb : Below w.heap.size w w') : Box4 b x y z u w' :=
  ⟨(hb.cell (p := ⟨b, 0, none⟩) h.lt).trans h.c0, (hb.cell (p := ⟨b, 1, none⟩) h.lt).trans h.c1, (hb.cell (p := ⟨b, 2, none⟩) h.lt).trans h.c2, (hb.cell (p := ⟨b, 3, none⟩) h.lt).trans h.c3, Nat.lt_of_lt_of_le h.lt hb.size⟩
theorem wrap_u64 (q : Nat) (h : q < 18446744073709551616) : IntKind.u64.wrap (q : Int) = (q : Int) := by
  first
    | exact IntWalk.u64_in _ (by omega)
    | exact IntWalk.u64_in _ (by omega) (by omega)
    | (simp [IntKind.wrap]; omega)
theorem lFits_eq (seq ack : Int) (d : Nat) : lFits seq ack d = (seqB seq && seqB ack && decide (d ≤ 60000)) := rfl
set_option maxRecDepth 20000 in
set_option maxHeartbeats 1000000 in
theorem seq_any (n : Int) (w : World) : Calls Try.prog 45 #[.int .i64 n] w fun e w' => e = .returned (.bool (seqB n)) ∧ w = w' := by
  unfold seqB
  by_cases h1 : 0 ≤ n
  · have d1 : decide (0 ≤ n) = true := by simpa using h1
    by_cases h2 : n ≤ 1073741824
    · have d2 : decide (n ≤ 1073741824) = true := by simpa using h2
      rw [show decide (0 ≤ n ∧ n ≤ 1073741824) = true by simp; omega]
      go_enter Try.func45, Try.ntmps45
      go_wp2
      go_ret
      exact ⟨rfl, rfl⟩
    · have d2 : decide (n ≤ 1073741824) = false := by simpa using h2
      rw [show decide (0 ≤ n ∧ n ≤ 1073741824) = false by simp; omega]
      go_enter Try.func45, Try.ntmps45
      go_wp2
      go_ret
      exact ⟨rfl, rfl⟩
  · have d1 : decide (0 ≤ n) = false := by simpa using h1
    rw [show decide (0 ≤ n ∧ n ≤ 1073741824) = false by simp; omega]
    go_enter Try.func45, Try.ntmps45
    go_wp2
    go_ret
    exact ⟨rfl, rfl⟩
set_option maxRecDepth 20000 in
set_option maxHeartbeats 1000000 in
theorem fits_any (ses : UInt64) (seq ack : Int) (data : ByteArray) (w : World) : Calls Try.prog 24 #[Fr ses seq ack data] w fun e w' => e = .returned (.bool (lFits seq ack data.size)) ∧ Below w.heap.size w w' := by
  have HS := Lib.hid (seq_any seq)
  have HA := Lib.hid (seq_any ack)
  rw [lFits_eq]
  unfold Fr
  cases h1 : seqB seq with
  | false =>
    rw [h1] at HS
    go_enter Try.func24, Try.ntmps24
    go_wp2_with fail
    refine (HS.out _).mono ?_
    rintro e w' ⟨rfl, rfl⟩
    go_wp2
    go_ret
    exact ⟨rfl, (Below.refl _ _).alloc (Nat.le_refl _) _⟩
  | true =>
    rw [h1] at HS
    cases h2 : seqB ack with
    | false =>
      rw [h2] at HA
      go_enter Try.func24, Try.ntmps24
      go_wp2_with fail
      refine (HS.out _).mono ?_
      rintro e w' ⟨rfl, rfl⟩
      go_wp2_with fail
      refine (HA.out _).mono ?_
      rintro e w' ⟨rfl, rfl⟩
      go_wp2
      go_ret
      exact ⟨rfl, (Below.refl _ _).alloc (Nat.le_refl _) _⟩
    | true =>
      rw [h2] at HA
      cases h3 : decide ((data.size : Int) ≤ 60000) with
      | true =>
        rw [show decide (data.size ≤ 60000) = true by simp at h3 ⊢; omega]
        go_enter Try.func24, Try.ntmps24
        go_wp2_with fail
        refine (HS.out _).mono ?_
        rintro e w' ⟨rfl, rfl⟩
        go_wp2_with fail
        refine (HA.out _).mono ?_
        rintro e w' ⟨rfl, rfl⟩
        go_wp2
        go_ret
        exact ⟨rfl, (Below.refl _ _).alloc (Nat.le_refl _) _⟩
      | false =>
        rw [show decide (data.size ≤ 60000) = false by simp at h3 ⊢; omega]
        go_enter Try.func24, Try.ntmps24
        go_wp2_with fail
        refine (HS.out _).mono ?_
        rintro e w' ⟨rfl, rfl⟩
        go_wp2_with fail
        refine (HA.out _).mono ?_
        rintro e w' ⟨rfl, rfl⟩
        go_wp2
        go_ret
        exact ⟨rfl, (Below.refl _ _).alloc (Nat.le_refl _) _⟩
set_option maxRecDepth 20000 in
set_option maxHeartbeats 1000000 in
theorem rseq_any (n : Int) (w : World) : Calls Try.prog 36 #[.int .i64 n] w fun e w' => e = .returned (.bool (seqB n)) ∧ w = w' := by
  unfold seqB
  by_cases h1 : 0 ≤ n
  · have d1 : decide (0 ≤ n) = true := by simpa using h1
    by_cases h2 : n ≤ 1073741824
    · have d2 : decide (n ≤ 1073741824) = true := by simpa using h2
      rw [show decide (0 ≤ n ∧ n ≤ 1073741824) = true by simp; omega]
      go_enter Try.func36, Try.ntmps36
      go_wp2
      go_ret
      exact ⟨rfl, rfl⟩
    · have d2 : decide (n ≤ 1073741824) = false := by simpa using h2
      rw [show decide (0 ≤ n ∧ n ≤ 1073741824) = false by simp; omega]
      go_enter Try.func36, Try.ntmps36
      go_wp2
      go_ret
      exact ⟨rfl, rfl⟩
  · have d1 : decide (0 ≤ n) = false := by simpa using h1
    rw [show decide (0 ≤ n ∧ n ≤ 1073741824) = false by simp; omega]
    go_enter Try.func36, Try.ntmps36
    go_wp2
    go_ret
    exact ⟨rfl, rfl⟩
set_option maxRecDepth 20000 in
set_option maxHeartbeats 1000000 in
theorem rfits_any (ses : UInt64) (seq ack : Int) (data : ByteArray) (w : World) : Calls Try.prog 23 #[Fr ses seq ack data] w fun e w' => e = .returned (.bool (lFits seq ack data.size)) ∧ Below w.heap.size w w' := by
  have HS := Lib.hid (rseq_any seq)
  have HA := Lib.hid (rseq_any ack)
  rw [lFits_eq]
  unfold Fr
  cases h1 : seqB seq with
  | false =>
    rw [h1] at HS
    go_enter Try.func23, Try.ntmps23
    go_wp2_with fail
    refine (HS.out _).mono ?_
    rintro e w' ⟨rfl, rfl⟩
    go_wp2
    go_ret
    exact ⟨rfl, (Below.refl _ _).alloc (Nat.le_refl _) _⟩
  | true =>
    rw [h1] at HS
    cases h2 : seqB ack with
    | false =>
      rw [h2] at HA
      go_enter Try.func23, Try.ntmps23
      go_wp2_with fail
      refine (HS.out _).mono ?_
      rintro e w' ⟨rfl, rfl⟩
      go_wp2_with fail
      refine (HA.out _).mono ?_
      rintro e w' ⟨rfl, rfl⟩
      go_wp2
      go_ret
      exact ⟨rfl, (Below.refl _ _).alloc (Nat.le_refl _) _⟩
    | true =>
      rw [h2] at HA
      cases h3 : decide ((data.size : Int) ≤ 60000) with
      | true =>
        rw [show decide (data.size ≤ 60000) = true by simp at h3 ⊢; omega]
        go_enter Try.func23, Try.ntmps23
        go_wp2_with fail
        refine (HS.out _).mono ?_
        rintro e w' ⟨rfl, rfl⟩
        go_wp2_with fail
        refine (HA.out _).mono ?_
        rintro e w' ⟨rfl, rfl⟩
        go_wp2
        go_ret
        exact ⟨rfl, (Below.refl _ _).alloc (Nat.le_refl _) _⟩
      | false =>
        rw [show decide (data.size ≤ 60000) = false by simp at h3 ⊢; omega]
        go_enter Try.func23, Try.ntmps23
        go_wp2_with fail
        refine (HS.out _).mono ?_
        rintro e w' ⟨rfl, rfl⟩
        go_wp2_with fail
        refine (HA.out _).mono ?_
        rintro e w' ⟨rfl, rfl⟩
        go_wp2
        go_ret
        exact ⟨rfl, (Below.refl _ _).alloc (Nat.le_refl _) _⟩
set_option maxRecDepth 20000 in
set_option maxHeartbeats 2000000 in
theorem write_any (ses : UInt64) (seq ack : Int) (data : ByteArray) (hd : data.size ≤ 1000000) (w : World) : Calls Try.prog 9 #[Fr ses seq ack data] w fun e w' => e = .returned (.string ⟨(lWrite ses.toNat seq ack data.data.toList).toArray⟩) ∧ Below w.heap.size w w' := by
  have HF := Lib.hid (fits_any ses seq ack data)
  have hl : data.data.toList.length = data.size := by simp
  unfold lWrite
  rw [hl]
  cases hf : lFits seq ack data.size with
  | false =>
    rw [hf] at HF
    rw [if_neg (by simp)]
    unfold Fr at HF ⊢
    go_enter Try.func9, Try.ntmps9
    go_wp2_with fail
    refine (HF.out _).mono ?_
    rintro e w1 ⟨rfl, b1⟩
    go_wp2
    go_ret
    exact ⟨rfl, ((Below.refl _ _).alloc (Nat.le_refl _) _).trans (b1.mono (by simp))⟩
  | true =>
    rw [hf] at HF
    rw [if_pos rfl]
    have hf2 := hf
    unfold lFits at hf2
    simp only [Bool.and_eq_true, decide_eq_true_iff] at hf2
    obtain ⟨q, rfl⟩ : ∃ q : Nat, seq = q := ⟨seq.toNat, by omega⟩
    obtain ⟨r, rfl⟩ : ∃ r : Nat, ack = r := ⟨ack.toNat, by omega⟩
    rw [Int.toNat_natCast, Int.toNat_natCast]
    have hq : q < 18446744073709551616 := by omega
    have hr : r < 18446744073709551616 := by omega
    have l1 := vPut_len10 ses.toNat ses.toNat_lt
    have l2 := vPut_len10 q hq
    have l3 := vPut_len10 r hr
    have HP1 := Lib.hid (put_any ses.toNat ses.toNat_lt)
    have HP2 := Lib.hid (put_any q hq)
    have HP3 := Lib.hid (put_any r hr)
    have hB : lBody ses.toNat q r data.data.toList = ((⟨(vPut ses.toNat).toArray⟩ : ByteArray) ++ (⟨(vPut q).toArray⟩ : ByteArray) ++ (⟨(vPut r).toArray⟩ : ByteArray) ++ data).data.toList := by
      rw [toList_append, toList_append, toList_append]; rfl
    have s1 : (⟨(vPut ses.toNat).toArray⟩ : ByteArray).size ≤ 10 := by show (vPut ses.toNat).toArray.size ≤ 10; simpa using l1
    have s2 : (⟨(vPut q).toArray⟩ : ByteArray).size ≤ 10 := by show (vPut q).toArray.size ≤ 10; simpa using l2
    have s3 : (⟨(vPut r).toArray⟩ : ByteArray).size ≤ 10 := by show (vPut r).toArray.size ≤ 10; simpa using l3
    rw [hB]
    generalize (⟨(vPut ses.toNat).toArray⟩ : ByteArray) = P1 at *
    generalize (⟨(vPut q).toArray⟩ : ByteArray) = P2 at *
    generalize (⟨(vPut r).toArray⟩ : ByteArray) = P3 at *
    have HWr := Lib.hid (wrap_any (P1 ++ P2 ++ P3 ++ data) (by rw [ByteArray.size_append, ByteArray.size_append, ByteArray.size_append]; omega))
    generalize fWrap (P1 ++ P2 ++ P3 ++ data).data.toList = F at *
    have a1 : (P1 ++ P2).size = P1.size + P2.size := ByteArray.size_append
    have a2 : (P1 ++ P2 ++ P3).size = P1.size + P2.size + P3.size := by rw [ByteArray.size_append, a1]
    clear hB l1 l2 l3 hf hl
    unfold Fr at HF ⊢
    have hb0 : Below w.heap.size w (w.alloc (.cells #[.int .u64 ses.toNat, .int .i64 q, .int .i64 r, .string data] 24)) := (Below.refl _ _).alloc (Nat.le_refl _) _
    obtain ⟨c0, c1, c2, c3, _⟩ := cells4 (heap_alloc_new w (.cells #[.int .u64 ses.toNat, .int .i64 q, .int .i64 r, .string data] 24))
    go_enter Try.func9, Try.ntmps9
    go_wp2_with fail
    refine (HF.out _).mono ?_
    rintro e w1 ⟨rfl, b1⟩
    have X0 := (b1.cell (p := ⟨w.heap.size, 0, none⟩) (by simp)).trans c0
    have X1 := (b1.cell (p := ⟨w.heap.size, 1, none⟩) (by simp)).trans c1
    have X2 := (b1.cell (p := ⟨w.heap.size, 2, none⟩) (by simp)).trans c2
    have X3 := (b1.cell (p := ⟨w.heap.size, 3, none⟩) (by simp)).trans c3
    have HW : Hid (Below w.heap.size w w1.drew) := (hb0.trans (b1.mono (by simp))).drew
    have hsz : w.heap.size < w1.drew.heap.size := by have := b1.size; simp at this ⊢; omega
    clear hb0 c0 c1 c2 c3 b1 HF
    go_wp2_with fail
    refine wp_region_noPanic ?_
    refine wp_region_held_drew (S := Box4 w.heap.size (.int .u64 ses.toNat) (.int .i64 q) (.int .i64 r) (.string data)) (by kernel_rfl) ⟨X0, X1, X2, X3, hsz⟩ (fun hHeld => ?_)
    obtain ⟨wx, hwx⟩ : ∃ wx, wx = w1.drew := ⟨_, rfl⟩
    rw [← hwx] at HW hHeld ⊢
    clear hwx X0 X1 X2 X3 hsz
    refine' wpAnyH_take (i := 0) (v := ?v1) rfl (by kernel_rfl) (by kernel_rfl) (by kernel_rfl) (fun _ _ _ h => h) (Or.inl ⟨by kernel_rfl, ?hy1⟩) (by assumption) ?rest1
    case hy1 => (intro w hSw; (try dsimp only at hSw); go_simp; try with_reducible rfl)
    try simp only [Act.put, List.setIfInBounds_toArray, List.set_cons_zero, List.set_cons_succ]
    refine wpAnyH_take (i := 1) (v := .int .u64 ses.toNat) rfl (by kernel_rfl) (by kernel_rfl) (by kernel_rfl) (fun _ _ _ h => h) (Or.inl ⟨by kernel_rfl, ?_⟩) hHeld ?_
    · intro w hSw
      have hh := hSw.c0
      go_simp
    try simp only [Act.put, List.setIfInBounds_toArray, List.set_cons_zero, List.set_cons_succ]
    refine' wpAnyH_take (i := 3) (v := ?v2) rfl (by kernel_rfl) (by kernel_rfl) (by kernel_rfl) (fun _ _ _ h => h) (Or.inl ⟨by kernel_rfl, ?hy2⟩) (by assumption) ?rest2
    case hy2 => (intro w hSw; (try dsimp only at hSw); go_simp; try with_reducible rfl)
    try simp only [Act.put, List.setIfInBounds_toArray, List.set_cons_zero, List.set_cons_succ]
    refine wpAnyH_take (i := 4) (v := .int .i64 q) rfl (by kernel_rfl) (by kernel_rfl) (by kernel_rfl) (fun _ _ _ h => h) (Or.inl ⟨by kernel_rfl, ?_⟩) hHeld ?_
    · intro w hSw
      have hh := hSw.c1
      go_simp
    try simp only [Act.put, List.setIfInBounds_toArray, List.set_cons_zero, List.set_cons_succ]
    refine wpAnyH_take (i := 5) (v := .int .u64 q) rfl (by kernel_rfl) (by kernel_rfl) (by kernel_rfl) (fun _ _ _ h => h) (Or.inl ⟨by kernel_rfl, ?_⟩) hHeld ?_
    · intro w hSw
      have hh := wrap_u64 q hq
      go_simp
    try simp only [Act.put, List.setIfInBounds_toArray, List.set_cons_zero, List.set_cons_succ]
    refine' wpAnyH_take (i := 8) (v := ?v3) rfl (by kernel_rfl) (by kernel_rfl) (by kernel_rfl) (fun _ _ _ h => h) (Or.inl ⟨by kernel_rfl, ?hy3⟩) (by assumption) ?rest3
    case hy3 => (intro w hSw; (try dsimp only at hSw); go_simp; try with_reducible rfl)
    try simp only [Act.put, List.setIfInBounds_toArray, List.set_cons_zero, List.set_cons_succ]
    refine wpAnyH_take (i := 9) (v := .int .i64 r) rfl (by kernel_rfl) (by kernel_rfl) (by kernel_rfl) (fun _ _ _ h => h) (Or.inl ⟨by kernel_rfl, ?_⟩) hHeld ?_
    · intro w hSw
      have hh := hSw.c2
      go_simp
    try simp only [Act.put, List.setIfInBounds_toArray, List.set_cons_zero, List.set_cons_succ]
    refine wpAnyH_take (i := 10) (v := .int .u64 r) rfl (by kernel_rfl) (by kernel_rfl) (by kernel_rfl) (fun _ _ _ h => h) (Or.inl ⟨by kernel_rfl, ?_⟩) hHeld ?_
    · intro w hSw
      have hh := wrap_u64 r hr
      go_simp
    try simp only [Act.put, List.setIfInBounds_toArray, List.set_cons_zero, List.set_cons_succ]
    refine' wpAnyH_take (i := 13) (v := ?v4) rfl (by kernel_rfl) (by kernel_rfl) (by kernel_rfl) (fun _ _ _ h => h) (Or.inl ⟨by kernel_rfl, ?hy4⟩) (by assumption) ?rest4
    case hy4 => (intro w hSw; (try dsimp only at hSw); go_simp; try with_reducible rfl)
    try simp only [Act.put, List.setIfInBounds_toArray, List.set_cons_zero, List.set_cons_succ]
    refine wpAnyH_take (i := 14) (v := .string data) rfl (by kernel_rfl) (by kernel_rfl) (by kernel_rfl) (fun _ _ _ h => h) (Or.inl ⟨by kernel_rfl, ?_⟩) hHeld ?_
    · intro w hSw
      have hh := hSw.c3
      go_simp
    try simp only [Act.put, List.setIfInBounds_toArray, List.set_cons_zero, List.set_cons_succ]
    refine wpAnyH_ready (rs := [2]) (by kernel_rfl) (by simp) ?_
    refine AllReadyH.cons rfl (fun K hK => ?_) AllReadyH.nil
    go_simp
    go_at_call 26
    refine (HP1.out _).mono ?_
    rintro er w' ⟨rfl, b'⟩
    have HW := Lib.hid (HW.out.trans (b'.mono HW.out.size))
    have HS := Lib.hid (hHeld.below b')
    clear b' hHeld
    go_wp2_with fail
    refine hK.out _ _ HS.out (fun hHeld => ?_)
    clear hK K
    try simp only [Act.put, List.setIfInBounds_toArray, List.set_cons_zero, List.set_cons_succ]
    refine wpAnyH_ready (rs := [6]) (by kernel_rfl) (by simp) ?_
    refine AllReadyH.cons rfl (fun K hK => ?_) AllReadyH.nil
    go_simp
    go_at_call 26
    refine (HP2.out _).mono ?_
    rintro er w' ⟨rfl, b'⟩
    have HW := Lib.hid (HW.out.trans (b'.mono HW.out.size))
    have HS := Lib.hid (hHeld.below b')
    clear b' hHeld
    go_wp2_with fail
    refine hK.out _ _ HS.out (fun hHeld => ?_)
    clear hK K
    try simp only [Act.put, List.setIfInBounds_toArray, List.set_cons_zero, List.set_cons_succ]
    refine wpAnyH_take (i := 7) (v := .string (P1 ++ P2)) rfl (by kernel_rfl) (by kernel_rfl) (by kernel_rfl) (fun _ _ _ h => h) (Or.inl ⟨by kernel_rfl, ?_⟩) hHeld ?_
    · intro w hSw
      go_simp
      first | done | omega | ((try simp only [ByteArray.size_append]); omega)
    try simp only [Act.put, List.setIfInBounds_toArray, List.set_cons_zero, List.set_cons_succ]
    refine wpAnyH_ready (rs := [11]) (by kernel_rfl) (by simp) ?_
    refine AllReadyH.cons rfl (fun K hK => ?_) AllReadyH.nil
    go_simp
    go_at_call 26
    refine (HP3.out _).mono ?_
    rintro er w' ⟨rfl, b'⟩
    have HW := Lib.hid (HW.out.trans (b'.mono HW.out.size))
    have HS := Lib.hid (hHeld.below b')
    clear b' hHeld
    go_wp2_with fail
    refine hK.out _ _ HS.out (fun hHeld => ?_)
    clear hK K
    try simp only [Act.put, List.setIfInBounds_toArray, List.set_cons_zero, List.set_cons_succ]
    refine wpAnyH_take (i := 12) (v := .string (P1 ++ P2 ++ P3)) rfl (by kernel_rfl) (by kernel_rfl) (by kernel_rfl) (fun _ _ _ h => h) (Or.inl ⟨by kernel_rfl, ?_⟩) hHeld ?_
    · intro w hSw
      go_simp
      first | done | omega | ((try simp only [ByteArray.size_append]); omega)
    try simp only [Act.put, List.setIfInBounds_toArray, List.set_cons_zero, List.set_cons_succ]
    refine wpAnyH_take (i := 15) (v := .string (P1 ++ P2 ++ P3 ++ data)) rfl (by kernel_rfl) (by kernel_rfl) (by kernel_rfl) (fun _ _ _ h => h) (Or.inl ⟨by kernel_rfl, ?_⟩) hHeld ?_
    · intro w hSw
      go_simp
      first | done | omega | ((try simp only [ByteArray.size_append]); omega)
    try simp only [Act.put, List.setIfInBounds_toArray, List.set_cons_zero, List.set_cons_succ]
    refine wpAnyH_ready (rs := [16]) (by kernel_rfl) (by simp) ?_
    refine AllReadyH.cons rfl (fun K hK => ?_) AllReadyH.nil
    go_simp
    go_at_call 25
    refine (HWr.out _).mono ?_
    rintro er w' ⟨rfl, b'⟩
    have HW := Lib.hid (HW.out.trans (b'.mono HW.out.size))
    have HS := Lib.hid (hHeld.below b')
    clear b' hHeld
    go_wp2_with fail
    refine hK.out _ _ HS.out (fun hHeld => ?_)
    clear hK K
    try simp only [Act.put, List.setIfInBounds_toArray, List.set_cons_zero, List.set_cons_succ]
    refine wpAnyH_take (i := 17) (v := .string ⟨F.toArray⟩) rfl (by kernel_rfl) (by kernel_rfl) (by kernel_rfl) (fun _ _ _ h => h) (Or.inl ⟨by kernel_rfl, ?_⟩) hHeld ?_
    · intro w hSw
      go_simp
    refine wpAnyH_done (by kernel_rfl) ?_ _
    refine NoPanic.normal ?_
    go_wp2_with fail
    go_ret
    exact ⟨rfl, HW.out⟩
set_option maxRecDepth 20000 in
set_option maxHeartbeats 2000000 in
theorem rwrite_any (ses : UInt64) (seq ack : Int) (data : ByteArray) (hd : data.size ≤ 1000000) (w : World) : Calls Try.prog 10 #[Fr ses seq ack data] w fun e w' => e = .returned (.string ⟨(lWrite ses.toNat seq ack data.data.toList).toArray⟩) ∧ Below w.heap.size w w' := by
  have HF := Lib.hid (rfits_any ses seq ack data)
  have hl : data.data.toList.length = data.size := by simp
  unfold lWrite
  rw [hl]
  cases hf : lFits seq ack data.size with
  | false =>
    rw [hf] at HF
    rw [if_neg (by simp)]
    unfold Fr at HF ⊢
    go_enter Try.func10, Try.ntmps10
    go_wp2_with fail
    refine (HF.out _).mono ?_
    rintro e w1 ⟨rfl, b1⟩
    go_wp2
    go_ret
    exact ⟨rfl, ((Below.refl _ _).alloc (Nat.le_refl _) _).trans (b1.mono (by simp))⟩
  | true =>
    rw [hf] at HF
    rw [if_pos rfl]
    have hf2 := hf
    unfold lFits at hf2
    simp only [Bool.and_eq_true, decide_eq_true_iff] at hf2
    obtain ⟨q, rfl⟩ : ∃ q : Nat, seq = q := ⟨seq.toNat, by omega⟩
    obtain ⟨r, rfl⟩ : ∃ r : Nat, ack = r := ⟨ack.toNat, by omega⟩
    rw [Int.toNat_natCast, Int.toNat_natCast]
    have hq : q < 18446744073709551616 := by omega
    have hr : r < 18446744073709551616 := by omega
    have l1 := vPut_len10 ses.toNat ses.toNat_lt
    have l2 := vPut_len10 q hq
    have l3 := vPut_len10 r hr
    have HP1 := Lib.hid (refPut_any ses.toNat ses.toNat_lt)
    have HP2 := Lib.hid (refPut_any q hq)
    have HP3 := Lib.hid (refPut_any r hr)
    have hB : lBody ses.toNat q r data.data.toList = ((⟨(vPut ses.toNat).toArray⟩ : ByteArray) ++ (⟨(vPut q).toArray⟩ : ByteArray) ++ (⟨(vPut r).toArray⟩ : ByteArray) ++ data).data.toList := by
      rw [toList_append, toList_append, toList_append]; rfl
    have s1 : (⟨(vPut ses.toNat).toArray⟩ : ByteArray).size ≤ 10 := by show (vPut ses.toNat).toArray.size ≤ 10; simpa using l1
    have s2 : (⟨(vPut q).toArray⟩ : ByteArray).size ≤ 10 := by show (vPut q).toArray.size ≤ 10; simpa using l2
    have s3 : (⟨(vPut r).toArray⟩ : ByteArray).size ≤ 10 := by show (vPut r).toArray.size ≤ 10; simpa using l3
    rw [hB]
    generalize (⟨(vPut ses.toNat).toArray⟩ : ByteArray) = P1 at *
    generalize (⟨(vPut q).toArray⟩ : ByteArray) = P2 at *
    generalize (⟨(vPut r).toArray⟩ : ByteArray) = P3 at *
    have HWr := Lib.hid (refWrap_any (P1 ++ P2 ++ P3 ++ data) (by rw [ByteArray.size_append, ByteArray.size_append, ByteArray.size_append]; omega))
    generalize fWrap (P1 ++ P2 ++ P3 ++ data).data.toList = F at *
    have a1 : (P1 ++ P2).size = P1.size + P2.size := ByteArray.size_append
    have a2 : (P1 ++ P2 ++ P3).size = P1.size + P2.size + P3.size := by rw [ByteArray.size_append, a1]
    clear hB l1 l2 l3 hf hl
    unfold Fr at HF ⊢
    have hb0 : Below w.heap.size w (w.alloc (.cells #[.int .u64 ses.toNat, .int .i64 q, .int .i64 r, .string data] 24)) := (Below.refl _ _).alloc (Nat.le_refl _) _
    obtain ⟨c0, c1, c2, c3, _⟩ := cells4 (heap_alloc_new w (.cells #[.int .u64 ses.toNat, .int .i64 q, .int .i64 r, .string data] 24))
    go_enter Try.func10, Try.ntmps10
    go_wp2_with fail
    refine (HF.out _).mono ?_
    rintro e w1 ⟨rfl, b1⟩
    have X0 := (b1.cell (p := ⟨w.heap.size, 0, none⟩) (by simp)).trans c0
    have X1 := (b1.cell (p := ⟨w.heap.size, 1, none⟩) (by simp)).trans c1
    have X2 := (b1.cell (p := ⟨w.heap.size, 2, none⟩) (by simp)).trans c2
    have X3 := (b1.cell (p := ⟨w.heap.size, 3, none⟩) (by simp)).trans c3
    have HW : Hid (Below w.heap.size w w1.drew) := (hb0.trans (b1.mono (by simp))).drew
    have hsz : w.heap.size < w1.drew.heap.size := by have := b1.size; simp at this ⊢; omega
    clear hb0 c0 c1 c2 c3 b1 HF
    go_wp2_with fail
    refine wp_region_noPanic ?_
    refine wp_region_held_drew (S := Box4 w.heap.size (.int .u64 ses.toNat) (.int .i64 q) (.int .i64 r) (.string data)) (by kernel_rfl) ⟨X0, X1, X2, X3, hsz⟩ (fun hHeld => ?_)
    obtain ⟨wx, hwx⟩ : ∃ wx, wx = w1.drew := ⟨_, rfl⟩
    rw [← hwx] at HW hHeld ⊢
    clear hwx X0 X1 X2 X3 hsz
    refine' wpAnyH_take (i := 0) (v := ?v5) rfl (by kernel_rfl) (by kernel_rfl) (by kernel_rfl) (fun _ _ _ h => h) (Or.inl ⟨by kernel_rfl, ?hy5⟩) (by assumption) ?rest5
    case hy5 => (intro w hSw; (try dsimp only at hSw); go_simp; try with_reducible rfl)
    try simp only [Act.put, List.setIfInBounds_toArray, List.set_cons_zero, List.set_cons_succ]
    refine wpAnyH_take (i := 1) (v := .int .u64 ses.toNat) rfl (by kernel_rfl) (by kernel_rfl) (by kernel_rfl) (fun _ _ _ h => h) (Or.inl ⟨by kernel_rfl, ?_⟩) hHeld ?_
    · intro w hSw
      have hh := hSw.c0
      go_simp
    try simp only [Act.put, List.setIfInBounds_toArray, List.set_cons_zero, List.set_cons_succ]
    refine' wpAnyH_take (i := 3) (v := ?v6) rfl (by kernel_rfl) (by kernel_rfl) (by kernel_rfl) (fun _ _ _ h => h) (Or.inl ⟨by kernel_rfl, ?hy6⟩) (by assumption) ?rest6
    case hy6 => (intro w hSw; (try dsimp only at hSw); go_simp; try with_reducible rfl)
    try simp only [Act.put, List.setIfInBounds_toArray, List.set_cons_zero, List.set_cons_succ]
    refine wpAnyH_take (i := 4) (v := .int .i64 q) rfl (by kernel_rfl) (by kernel_rfl) (by kernel_rfl) (fun _ _ _ h => h) (Or.inl ⟨by kernel_rfl, ?_⟩) hHeld ?_
    · intro w hSw
      have hh := hSw.c1
      go_simp
    try simp only [Act.put, List.setIfInBounds_toArray, List.set_cons_zero, List.set_cons_succ]
    refine wpAnyH_take (i := 5) (v := .int .u64 q) rfl (by kernel_rfl) (by kernel_rfl) (by kernel_rfl) (fun _ _ _ h => h) (Or.inl ⟨by kernel_rfl, ?_⟩) hHeld ?_
    · intro w hSw
      have hh := wrap_u64 q hq
      go_simp
    try simp only [Act.put, List.setIfInBounds_toArray, List.set_cons_zero, List.set_cons_succ]
    refine' wpAnyH_take (i := 8) (v := ?v7) rfl (by kernel_rfl) (by kernel_rfl) (by kernel_rfl) (fun _ _ _ h => h) (Or.inl ⟨by kernel_rfl, ?hy7⟩) (by assumption) ?rest7
    case hy7 => (intro w hSw; (try dsimp only at hSw); go_simp; try with_reducible rfl)
    try simp only [Act.put, List.setIfInBounds_toArray, List.set_cons_zero, List.set_cons_succ]
    refine wpAnyH_take (i := 9) (v := .int .i64 r) rfl (by kernel_rfl) (by kernel_rfl) (by kernel_rfl) (fun _ _ _ h => h) (Or.inl ⟨by kernel_rfl, ?_⟩) hHeld ?_
    · intro w hSw
      have hh := hSw.c2
      go_simp
    try simp only [Act.put, List.setIfInBounds_toArray, List.set_cons_zero, List.set_cons_succ]
    refine wpAnyH_take (i := 10) (v := .int .u64 r) rfl (by kernel_rfl) (by kernel_rfl) (by kernel_rfl) (fun _ _ _ h => h) (Or.inl ⟨by kernel_rfl, ?_⟩) hHeld ?_
    · intro w hSw
      have hh := wrap_u64 r hr
      go_simp
    try simp only [Act.put, List.setIfInBounds_toArray, List.set_cons_zero, List.set_cons_succ]
    refine' wpAnyH_take (i := 13) (v := ?v8) rfl (by kernel_rfl) (by kernel_rfl) (by kernel_rfl) (fun _ _ _ h => h) (Or.inl ⟨by kernel_rfl, ?hy8⟩) (by assumption) ?rest8
    case hy8 => (intro w hSw; (try dsimp only at hSw); go_simp; try with_reducible rfl)
    try simp only [Act.put, List.setIfInBounds_toArray, List.set_cons_zero, List.set_cons_succ]
    refine wpAnyH_take (i := 14) (v := .string data) rfl (by kernel_rfl) (by kernel_rfl) (by kernel_rfl) (fun _ _ _ h => h) (Or.inl ⟨by kernel_rfl, ?_⟩) hHeld ?_
    · intro w hSw
      have hh := hSw.c3
      go_simp
    try simp only [Act.put, List.setIfInBounds_toArray, List.set_cons_zero, List.set_cons_succ]
    refine wpAnyH_ready (rs := [2]) (by kernel_rfl) (by simp) ?_
    refine AllReadyH.cons rfl (fun K hK => ?_) AllReadyH.nil
    go_simp
    go_at_call 28
    refine (HP1.out _).mono ?_
    rintro er w' ⟨rfl, b'⟩
    have HW := Lib.hid (HW.out.trans (b'.mono HW.out.size))
    have HS := Lib.hid (hHeld.below b')
    clear b' hHeld
    go_wp2_with fail
    refine hK.out _ _ HS.out (fun hHeld => ?_)
    clear hK K
    try simp only [Act.put, List.setIfInBounds_toArray, List.set_cons_zero, List.set_cons_succ]
    refine wpAnyH_ready (rs := [6]) (by kernel_rfl) (by simp) ?_
    refine AllReadyH.cons rfl (fun K hK => ?_) AllReadyH.nil
    go_simp
    go_at_call 28
    refine (HP2.out _).mono ?_
    rintro er w' ⟨rfl, b'⟩
    have HW := Lib.hid (HW.out.trans (b'.mono HW.out.size))
    have HS := Lib.hid (hHeld.below b')
    clear b' hHeld
    go_wp2_with fail
    refine hK.out _ _ HS.out (fun hHeld => ?_)
    clear hK K
    try simp only [Act.put, List.setIfInBounds_toArray, List.set_cons_zero, List.set_cons_succ]
    refine wpAnyH_take (i := 7) (v := .string (P1 ++ P2)) rfl (by kernel_rfl) (by kernel_rfl) (by kernel_rfl) (fun _ _ _ h => h) (Or.inl ⟨by kernel_rfl, ?_⟩) hHeld ?_
    · intro w hSw
      go_simp
      first | done | omega | ((try simp only [ByteArray.size_append]); omega)
    try simp only [Act.put, List.setIfInBounds_toArray, List.set_cons_zero, List.set_cons_succ]
    refine wpAnyH_ready (rs := [11]) (by kernel_rfl) (by simp) ?_
    refine AllReadyH.cons rfl (fun K hK => ?_) AllReadyH.nil
    go_simp
    go_at_call 28
    refine (HP3.out _).mono ?_
    rintro er w' ⟨rfl, b'⟩
    have HW := Lib.hid (HW.out.trans (b'.mono HW.out.size))
    have HS := Lib.hid (hHeld.below b')
    clear b' hHeld
    go_wp2_with fail
    refine hK.out _ _ HS.out (fun hHeld => ?_)
    clear hK K
    try simp only [Act.put, List.setIfInBounds_toArray, List.set_cons_zero, List.set_cons_succ]
    refine wpAnyH_take (i := 12) (v := .string (P1 ++ P2 ++ P3)) rfl (by kernel_rfl) (by kernel_rfl) (by kernel_rfl) (fun _ _ _ h => h) (Or.inl ⟨by kernel_rfl, ?_⟩) hHeld ?_
    · intro w hSw
      go_simp
      first | done | omega | ((try simp only [ByteArray.size_append]); omega)
    try simp only [Act.put, List.setIfInBounds_toArray, List.set_cons_zero, List.set_cons_succ]
    refine wpAnyH_take (i := 15) (v := .string (P1 ++ P2 ++ P3 ++ data)) rfl (by kernel_rfl) (by kernel_rfl) (by kernel_rfl) (fun _ _ _ h => h) (Or.inl ⟨by kernel_rfl, ?_⟩) hHeld ?_
    · intro w hSw
      go_simp
      first | done | omega | ((try simp only [ByteArray.size_append]); omega)
    try simp only [Act.put, List.setIfInBounds_toArray, List.set_cons_zero, List.set_cons_succ]
    refine wpAnyH_ready (rs := [16]) (by kernel_rfl) (by simp) ?_
    refine AllReadyH.cons rfl (fun K hK => ?_) AllReadyH.nil
    go_simp
    go_at_call 27
    refine (HWr.out _).mono ?_
    rintro er w' ⟨rfl, b'⟩
    have HW := Lib.hid (HW.out.trans (b'.mono HW.out.size))
    have HS := Lib.hid (hHeld.below b')
    clear b' hHeld
    go_wp2_with fail
    refine hK.out _ _ HS.out (fun hHeld => ?_)
    clear hK K
    try simp only [Act.put, List.setIfInBounds_toArray, List.set_cons_zero, List.set_cons_succ]
    refine wpAnyH_take (i := 17) (v := .string ⟨F.toArray⟩) rfl (by kernel_rfl) (by kernel_rfl) (by kernel_rfl) (fun _ _ _ h => h) (Or.inl ⟨by kernel_rfl, ?_⟩) hHeld ?_
    · intro w hSw
      go_simp
    refine wpAnyH_done (by kernel_rfl) ?_ _
    refine NoPanic.normal ?_
    go_wp2_with fail
    go_ret
    exact ⟨rfl, HW.out⟩
end Go.Proofs.Ytjgjhjecgdndjaa
