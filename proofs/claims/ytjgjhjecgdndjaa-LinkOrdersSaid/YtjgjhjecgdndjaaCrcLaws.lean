import Derived.Test.YtjgjhjecgdndjaaCrcSpec
namespace Go.Proofs.Ytjgjhjecgdndjaa
/-- one bit, on BitVec -/
def bvF (c : BitVec 32) : BitVec 32 := (c >>> 1) ^^^ (2197175160#32 &&& (-(c &&& 1#32)))
theorem crcF_bv (c : UInt32) : (crcF c).toBitVec = bvF c.toBitVec := rfl
theorem and_one_bv (c : BitVec 32) : c &&& 1#32 = if c.getLsbD 0 then 1#32 else 0#32 := by
  apply BitVec.eq_of_getLsbD_eq
  intro i hi
  rcases Nat.eq_zero_or_pos i with rfl | h
  · cases h : c.getLsbD 0 <;> simp_all
  · cases h' : c.getLsbD 0 <;> simp [BitVec.getLsbD_one] <;> omega
theorem bvF_eq (c : BitVec 32) : bvF c = if c.getLsbD 0 then (c >>> 1) ^^^ 2197175160#32 else c >>> 1 := by
  unfold bvF
  rw [and_one_bv]
  cases h : c.getLsbD 0 <;> simp
theorem bvF_xor (a b : BitVec 32) : bvF (a ^^^ b) = bvF a ^^^ bvF b := by
  rw [bvF_eq, bvF_eq, bvF_eq, BitVec.getLsbD_xor]
  have hs : (a ^^^ b) >>> 1 = (a >>> 1) ^^^ (b >>> 1) := by
    apply BitVec.eq_of_getLsbD_eq; intro i hi; simp
  rw [hs]
  cases a.getLsbD 0 <;> cases b.getLsbD 0 <;> simp
  · rw [BitVec.xor_assoc]
  · rw [BitVec.xor_assoc, BitVec.xor_comm (b >>> 1), ← BitVec.xor_assoc]
  · rw [BitVec.xor_assoc, BitVec.xor_comm (2197175160#32), BitVec.xor_assoc]; simp
theorem bvF_zero (a : BitVec 32) (h : bvF a = 0#32) : a = 0#32 := by
  rw [bvF_eq] at h
  cases h0 : a.getLsbD 0
  · simp only [h0, Bool.false_eq_true, if_false] at h
    apply BitVec.eq_of_getLsbD_eq
    intro i hi
    rcases Nat.eq_zero_or_pos i with rfl | hp
    · simpa using h0
    · have := congrArg (fun x => x.getLsbD (i - 1)) h
      simp at this
      rw [show 1 + (i - 1) = i by omega] at this
      simpa using this
  · simp only [h0, if_true] at h
    have := congrArg (fun x => x.getLsbD 31) h
    simp at this
theorem crcF_xor (a b : UInt32) : crcF (a ^^^ b) = crcF a ^^^ crcF b := by
  apply UInt32.toBitVec_inj.1
  rw [UInt32.toBitVec_xor, crcF_bv, crcF_bv, crcF_bv, UInt32.toBitVec_xor, bvF_xor]
theorem crcF_zero (a : UInt32) (h : crcF a = 0) : a = 0 := by
  apply UInt32.toBitVec_inj.1
  exact bvF_zero _ (by rw [← crcF_bv, h]; rfl)
theorem crcN_xor (n : Nat) (a b : UInt32) : crcN n (a ^^^ b) = crcN n a ^^^ crcN n b := by
  induction n with
  | zero => rfl
  | succ n ih => rw [crcN, crcN, crcN, ih, crcF_xor]
theorem crcN_zero (n : Nat) (a : UInt32) (h : crcN n a = 0) : a = 0 := by
  induction n with
  | zero => exact h
  | succ n ih => exact ih (crcF_zero _ h)
theorem crcN_add (n m : Nat) (a : UInt32) : crcN n (crcN m a) = crcN (n + m) a := by
  induction n with
  | zero => rw [Nat.zero_add]; rfl
  | succ n ih => rw [Nat.succ_add]; simp only [crcN]; rw [ih]
theorem xor_eq_zero32 {a b : UInt32} (h : a ^^^ b = 0) : a = b := by
  have := congrArg (· ^^^ b) h
  simpa [UInt32.xor_assoc] using this
theorem crcB_xor (c d : UInt32) (a b : UInt8) : crcB (c ^^^ d) (a ^^^ b) = crcB c a ^^^ crcB d b := by
  unfold crcB
  rw [← crcN_xor]
  congr 1
  rw [UInt8.toUInt32_xor, UInt32.xor_assoc, UInt32.xor_assoc, ← UInt32.xor_assoc d, UInt32.xor_comm d, UInt32.xor_assoc]
theorem crcB_inj (c d : UInt32) (b : UInt8) (h : crcB c b = crcB d b) : c = d := by
  have : crcN 8 ((c ^^^ b.toUInt32) ^^^ (d ^^^ b.toUInt32)) = 0 := by
    rw [crcN_xor]; unfold crcB at h; rw [h]; simp
  have := xor_eq_zero32 (crcN_zero _ _ this)
  have := congrArg (· ^^^ b.toUInt32) this
  simpa [UInt32.xor_assoc] using this
theorem crcFold_inj (l : List UInt8) : ∀ (c d : UInt32), crcFold c l = crcFold d l → c = d := by
  induction l with
  | nil => intro c d h; exact h
  | cons b l ih => intro c d h; exact crcB_inj _ _ _ (ih _ _ h)
theorem up8 : ∀ n : Nat, n < 256 → crcN 8 (UInt32.ofNat n <<< 8) = UInt32.ofNat n ∧ crcN 16 (UInt32.ofNat n <<< 16) = UInt32.ofNat n ∧ crcN 24 (UInt32.ofNat n <<< 24) = UInt32.ofNat n := by decide +kernel
theorem up8' (b : UInt8) : crcN 8 (b.toUInt32 <<< 8) = b.toUInt32 ∧ crcN 16 (b.toUInt32 <<< 16) = b.toUInt32 ∧ crcN 24 (b.toUInt32 <<< 24) = b.toUInt32 := by
  have := up8 b.toNat b.toNat_lt
  rwa [show UInt32.ofNat b.toNat = b.toUInt32 by apply UInt32.toNat_inj.1; simp] at this
theorem crcFold_four (a b c d : UInt8) : crcFold 0 [a, b, c, d] = crcN 32 (a.toUInt32 ^^^ b.toUInt32 <<< 8 ^^^ c.toUInt32 <<< 16 ^^^ d.toUInt32 <<< 24) := by
  obtain ⟨b8, _, _⟩ := up8' b
  obtain ⟨_, c16, _⟩ := up8' c
  obtain ⟨_, _, d24⟩ := up8' d
  simp only [crcFold, List.foldl_cons, List.foldl_nil, crcB]
  rw [UInt32.zero_xor, ← b8, ← crcN_xor, crcN_add, ← c16, ← crcN_xor, crcN_add, ← d24, ← crcN_xor, crcN_add]
  rw [b8, c16, d24]
theorem four_zero (a b c d : UInt8) (h : a.toUInt32 ^^^ b.toUInt32 <<< 8 ^^^ c.toUInt32 <<< 16 ^^^ d.toUInt32 <<< 24 = 0) : a = 0 ∧ b = 0 ∧ c = 0 ∧ d = 0 := by
  have hb := congrArg UInt32.toBitVec h
  simp only [UInt32.toBitVec_xor, UInt32.toBitVec_shiftLeft, UInt8.toBitVec_toUInt32] at hb
  have g : ∀ i, i < 32 → (a.toBitVec.getLsbD i ^^ ((!decide (i < 8)) && b.toBitVec.getLsbD (i - 8)) ^^ ((!decide (i < 16)) && c.toBitVec.getLsbD (i - 16)) ^^ ((!decide (i < 24)) && d.toBitVec.getLsbD (i - 24))) = false := by
    intro i hi
    have := congrArg (fun x => x.getLsbD i) hb
    simp [hi] at this
    simpa using this
  refine ⟨?_, ?_, ?_, ?_⟩ <;> apply UInt8.toBitVec_inj.1 <;> apply BitVec.eq_of_getLsbD_eq <;> intro i hi
  · have := g i (by omega)
    simp [show i < 8 by omega, show i < 16 by omega, show i < 24 by omega] at this
    have e : a.toBitVec.getLsbD i = false := by rw [BitVec.getLsbD_eq_getElem hi]; exact this
    simpa using e
  · have := g (i + 8) (by omega)
    simp [show i + 8 < 16 by omega, show i + 8 < 24 by omega] at this
    simpa using this
  · have := g (i + 16) (by omega)
    simp [show i + 16 < 24 by omega] at this
    simpa using this
  · have := g (i + 24) (by omega)
    simp at this
    simpa using this
theorem xor_eq_zero8 {a b : UInt8} (h : a ^^^ b = 0) : a = b := by
  have := congrArg (· ^^^ b) h
  simpa [UInt8.xor_assoc] using this
theorem crcFold_xor4 (c d : UInt32) (a0 a1 a2 a3 b0 b1 b2 b3 : UInt8) : crcFold (c ^^^ d) [a0 ^^^ b0, a1 ^^^ b1, a2 ^^^ b2, a3 ^^^ b3] = crcFold c [a0, a1, a2, a3] ^^^ crcFold d [b0, b1, b2, b3] := by
  simp only [crcFold, List.foldl_cons, List.foldl_nil, crcB_xor]
theorem not_inj32 {a b : UInt32} (h : ~~~a = ~~~b) : a = b := by
  have := congrArg (~~~ ·) h
  simpa using this
theorem crc_one (p s : List UInt8) (a b c d a' b' c' d' : UInt8) :
    (crcMore 0 (p ++ [a, b, c, d] ++ s) = crcMore 0 (p ++ [a', b', c', d'] ++ s)) ↔ [a, b, c, d] = [a', b', c', d'] := by
  constructor
  · intro h
    have h := not_inj32 h
    rw [crcFold_append, crcFold_append, crcFold_append, crcFold_append] at h
    have h := crcFold_inj _ _ _ h
    generalize crcFold (~~~0) p = X at h
    have e : crcFold (X ^^^ X) [a ^^^ a', b ^^^ b', c ^^^ c', d ^^^ d'] = 0 := by rw [crcFold_xor4, h]; simp
    rw [UInt32.xor_self, crcFold_four] at e
    obtain ⟨e0, e1, e2, e3⟩ := four_zero _ _ _ _ (crcN_zero _ _ e)
    rw [xor_eq_zero8 e0, xor_eq_zero8 e1, xor_eq_zero8 e2, xor_eq_zero8 e3]
  · intro h; rw [h]
theorem crcFold_xor3 (l : List (UInt8 × UInt8 × UInt8)) : ∀ (c d e : UInt32), crcFold (c ^^^ d ^^^ e) (l.map fun x => x.1 ^^^ x.2.1 ^^^ x.2.2) = crcFold c (l.map (·.1)) ^^^ crcFold d (l.map (·.2.1)) ^^^ crcFold e (l.map (·.2.2)) := by
  induction l with
  | nil => intro c d e; rfl
  | cons x l ih =>
    intro c d e
    simp only [List.map_cons, crcFold, List.foldl_cons, crcB_xor]
    exact ih _ _ _
theorem not_xor3 (a b c : UInt32) : ~~~a ^^^ ~~~b ^^^ ~~~c = ~~~(a ^^^ b ^^^ c) := by
  simp [UInt32.xor_not, UInt32.not_xor]
theorem crc_linear (l : List (UInt8 × UInt8 × UInt8)) : crcMore 0 (l.map (·.1)) ^^^ crcMore 0 (l.map (·.2.1)) ^^^ crcMore 0 (l.map (·.2.2)) = crcMore 0 (l.map fun x => x.1 ^^^ x.2.1 ^^^ x.2.2) := by
  unfold crcMore
  rw [not_xor3, ← crcFold_xor3]
  congr 2
theorem crc_nine : crcMore 0 [49, 50, 51, 52, 53, 54, 55, 56, 57] = 3808858755 := by decide +kernel
theorem crcMore_nil (c : UInt32) : crcMore c [] = c := by simp [crcMore, crcFold]
theorem crcMore_append (c : UInt32) (l m : List UInt8) : crcMore c (l ++ m) = crcMore (crcMore c l) m := by
  simp [crcMore, crcFold_append]
theorem crcF_cases (c : UInt32) : crcF c = if c.toNat % 2 = 1 then (c >>> 1) ^^^ 2197175160 else c >>> 1 := by
  apply UInt32.toBitVec_inj.1
  rw [crcF_bv, bvF_eq]
  have e : c.toBitVec.getLsbD 0 = decide (c.toNat % 2 = 1) := by
    rw [BitVec.getLsbD, Nat.testBit_zero]; rfl
  rw [e]
  by_cases h : c.toNat % 2 = 1 <;> simp [h]
end Go.Proofs.Ytjgjhjecgdndjaa
