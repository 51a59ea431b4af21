/- Texts of this claim's author, packed: CrcWalk, VarintSpec, VarintIter. Conditions: none. -/
import Derived.Test.YtfpofcfoeajkiaaGreatQR01
import Derived.Test.YtfpofcfoeajkiaaGreatProg
import Derived.WalkKit
import Derived.WalkSpells
import Derived.WalkLawsBesides
import Derived.Lib.Hide
import Derived.RangeFuncFrom
import Derived.RangeFuncNested
import Derived.RangeFuncBound
import Derived.RangeFuncCalls
import Derived.RangeFuncLeaves
import Derived.Shelf.Abstract
import Derived.Shelf.RegionOpen
import Derived.OwnWalkIn
import Derived.TacticsInMore
import Derived.LoopNIn
import Derived.LoopIn
import Derived.IntWalk
/- The walks of package crc. -/
namespace Go.Proofs.YtfpofcfoeajkiaaGreat
open Go.RowKit
set_option maxHeartbeats 400000 in
theorem crcStep_any (c : UInt32) (b : UInt8) (w : World) :
    Calls Tryz.prog 101 #[.int .u32 c.toNat, .int .u8 b.toNat] w fun e w' => e = .returned (.int .u32 (crcB c b).toNat) ∧ w = w' := by
  have hc := c.toNat_lt
  have hb := b.toNat_lt
  have hx := x32b c b
  have hB : crcB c b = crcN 8 (c ^^^ b.toUInt32) := rfl
  rw [hB]
  generalize c ^^^ b.toUInt32 = d at *
  clear hB
  go_enter Tryz.func101, Tryz.ntmps101
  go_wp2
  go_loop [0, 9] (fun c i => ∃ k : Nat, k ≤ 8 ∧ i = .int .i64 k ∧ c = .int .u32 (crcN k d).toNat) (fun _ i => 8 - (intOf i).toNat)
  case atStart => exact ⟨0, Nat.zero_le _, rfl, rfl⟩
  case round =>
    obtain ⟨k, hk, rfl, rfl⟩ := hrel
    generalize hs : crcN k d = s at *
    have hsl := s.toNat_lt
    have Hs := Lib.hid hs; clear hs
    by_cases hlt : k < 8
    · go_wp2
      go_round
      case rel =>
        refine ⟨k + 1, by omega, by go_num, ?_⟩
        congr 1
        rw [show (1 : Int) = ((1 : UInt32).toNat : Int) from rfl, show (2197175160 : Int) = ((2197175160 : UInt32).toNat : Int) from rfl]
        simp only [x32, a32, ng32, sr32]
        rw [crcN, Hs.out, crcF]
      case measure => simp [intOf]; omega
    · go_wp2
      go_ret
      obtain rfl : k = 8 := by omega
      exact ⟨by rw [Hs.out]; rfl, rfl⟩
set_option maxHeartbeats 400000 in
theorem crcLit_any (c : UInt32) (b : UInt8) (w : World) :
    Calls Tryz.prog 100 #[.int .u32 c.toNat, .int .u8 b.toNat] w fun e w' => e = .returned (.int .u32 (crcB c b).toNat) ∧ w = w' := by
  go_enter Tryz.func100, Tryz.ntmps100
  go_wp2_with (go_at_call 101; refine (crcStep_any _ _ _).mono ?_; rintro e w' ⟨rfl, rfl⟩)
  go_ret
  exact ⟨rfl, rfl⟩
set_option maxHeartbeats 400000 in
theorem crcFold_any (c : UInt32) (s : ByteArray) (w : World) (hs : s.size ≤ maxLen) :
    Calls Tryz.prog 99 #[.int .u32 c.toNat, .string s, .func (.func 100) #[] #[]] w fun e w' => e = .returned (.int .u32 (crcFold c s.data.toList).toNat) ∧ w = w' := by
  unfold maxLen at hs
  go_enter Tryz.func99, Tryz.ntmps99
  go_wp2
  go_loop [0, 7, 10] (fun x _ i => ∃ k : Nat, k ≤ s.size ∧ i = .int .i64 k ∧ x = .int .u32 (crcFold c (s.data.toList.take k)).toNat) (fun _ _ i => s.size - (intOf i).toNat)
  case atStart => exact ⟨0, Nat.zero_le _, rfl, rfl⟩
  case round =>
    obtain ⟨k, hk, rfl, rfl⟩ := hrel
    by_cases hlt : k < s.size
    · have Hn : Hid (crcFold c (s.data.toList.take (k + 1)) = crcB (crcFold c (s.data.toList.take k)) s[k]) := by
        rw [take_snoc s k hlt]; exact crcFold_snoc _ _ _
      generalize crcFold c (s.data.toList.take k) = d at *
      go_wp2_with (go_at_call 100; refine (crcLit_any _ _ _).mono ?_; rintro e w' ⟨rfl, rfl⟩)
      go_round
      case rel => exact ⟨k + 1, by omega, by go_num, by rw [Hn.out]⟩
      case measure => simp [intOf]; omega
    · have ht := take_all s k (by omega)
      go_wp2
      go_ret
      exact ⟨by first | rfl | rw [ht], rfl⟩
set_option maxHeartbeats 400000 in
theorem crcMore_any (c : UInt32) (s : ByteArray) (w : World) (hs : s.size ≤ maxLen) :
    Calls Tryz.prog 79 #[.int .u32 c.toNat, .string s] w fun e w' => e = .returned (.int .u32 (crcMore c s.data.toList).toNat) ∧ w = w' := by
  have h1 := n32 c
  have h2 := n32 (crcFold (~~~c) s.data.toList)
  have h3 : crcMore c s.data.toList = ~~~(crcFold (~~~c) s.data.toList) := rfl
  rw [h3]
  have hc := crcFold_any (~~~c) s
  generalize crcFold (~~~c) s.data.toList = r at *
  generalize ~~~c = d at *
  generalize ~~~r = q at *
  clear h3
  have H := Lib.hid hc; clear hc
  have hsg : IntKind.u32.signed = false := rfl
  have hmx : IntKind.u32.max = 4294967295 := rfl
  go_enter Tryz.func79, Tryz.ntmps79
  go_wp2_with (go_at_call 99; refine (H.out _ hs).mono ?_; rintro e w' ⟨rfl, rfl⟩)
  go_ret
  exact ⟨rfl, rfl⟩
set_option maxHeartbeats 400000 in
theorem crcSum_any (s : ByteArray) (w : World) (hs : s.size ≤ maxLen) :
    Calls Tryz.prog 50 #[.string s] w fun e w' => e = .returned (.int .u32 (crcMore 0 s.data.toList).toNat) ∧ w = w' := by
  have h := fun w => crcMore_any 0 s w hs
  simp only [show ((0 : UInt32).toNat : Int) = 0 from rfl] at h
  have H := Lib.hid h; clear h
  go_enter Tryz.func50, Tryz.ntmps50
  go_wp2_with (go_at_call 79; refine (H.out _).mono ?_; rintro e w' ⟨rfl, rfl⟩)
  go_ret
  exact ⟨rfl, rfl⟩
theorem crcF_odd (c : UInt32) (h : c.toNat % 2 = 1) : bits .xor .u32 ((c.toNat : Int) / (2 : Int)) (2197175160 : Int) = ((crcF c).toNat : Int) := by
  rw [crcF_cases, if_pos h, show (2197175160 : Int) = ((2197175160 : UInt32).toNat : Int) from rfl, sr32, x32]
theorem crcF_even (c : UInt32) (h : c.toNat % 2 = 0) : (c.toNat : Int) / (2 : Int) = ((crcF c).toNat : Int) := by
  rw [crcF_cases, if_neg (by omega), sr32]
set_option maxHeartbeats 400000 in
theorem refMore_any (c : UInt32) (s : ByteArray) (w : World) (hs : s.size ≤ maxLen) :
    Calls Tryz.prog 82 #[.int .u32 c.toNat, .string s] w fun e w' => e = .returned (.int .u32 (crcMore c s.data.toList).toNat) ∧ w = w' := by
  unfold maxLen at hs
  have h1 := not_sub32 c
  have Hm : Hid (crcMore c s.data.toList = ~~~(crcFold (~~~c) s.data.toList)) := rfl
  rw [Hm.out]
  generalize ~~~c = d at *
  have h2 := not_sub32 (crcFold d s.data.toList)
  generalize ~~~(crcFold d s.data.toList) = q at *
  have H2 := Lib.hid h2; clear h2
  go_enter Tryz.func82, Tryz.ntmps82
  go_wp2_with fail
  go_loop [0, 5, 6] (fun x i _ => ∃ k : Nat, k ≤ s.size ∧ i = .int .i64 k ∧ x = .int .u32 (crcFold d (s.data.toList.take k)).toNat) (fun _ i _ => s.size - (intOf i).toNat)
  case atStart => exact ⟨0, Nat.zero_le _, rfl, rfl⟩
  case round =>
    obtain ⟨k, hk, rfl, rfl⟩ := hrel
    by_cases hlt : k < s.size
    · have Hn : Hid (crcFold d (s.data.toList.take (k + 1)) = crcN 8 ((crcFold d (s.data.toList.take k)) ^^^ s[k].toUInt32)) := by
        rw [take_snoc s k hlt]; exact crcFold_snoc _ _ _
      generalize crcFold d (s.data.toList.take k) = y at *
      have hx := x32b y s[k]
      have hsk := s[k].toNat_lt
      generalize y ^^^ s[k].toUInt32 = z at *
      go_wp2_with fail
      go_loop [0, 6] (fun x i => ∃ j : Nat, j ≤ 8 ∧ i = .int .i64 j ∧ x = .int .u32 (crcN j z).toNat) (fun _ i => 8 - (intOf i).toNat)
      case atStart => exact ⟨0, Nat.zero_le _, rfl, rfl⟩
      case round =>
        obtain ⟨j, hj, rfl, rfl⟩ := hrel
        generalize hs' : crcN j z = v at *
        have hv := v.toNat_lt
        have Hv := Lib.hid hs'; clear hs'
        by_cases hl : j < 8
        · rcases Nat.mod_two_eq_zero_or_one v.toNat with he | he
          · have e1 := crcF_even v he
            have e2 : ((v.toNat : Int) % 2 == 1) = false := by simp; omega
            have H1 : Hid (crcN (j + 1) z = crcF v) := by show crcF (crcN j z) = _; rw [Hv.out]
            clear he
            generalize crcF v = r at *
            go_wp2_with fail
            go_round
            case rel => exact ⟨j + 1, by omega, by go_num, by rw [H1.out]⟩
            case measure => simp [intOf]; omega
          · have e1 := crcF_odd v he
            have e2 : ((v.toNat : Int) % 2 == 1) = true := by simp; omega
            have H1 : Hid (crcN (j + 1) z = crcF v) := by show crcF (crcN j z) = _; rw [Hv.out]
            clear he
            generalize crcF v = r at *
            go_wp2_with fail
            go_round
            case rel => exact ⟨j + 1, by omega, by go_num, by rw [H1.out]⟩
            case measure => simp [intOf]; omega
        · obtain rfl : j = 8 := by omega
          go_wp2_with fail
          go_round
          case rel => exact ⟨k + 1, by omega, by go_num, by rw [Hn.out, Hv.out]⟩
          case measure => simp [intOf]; omega
    · have ht := take_all s k (by omega)
      go_wp2_with fail
      go_ret
      exact ⟨ret_int (by have := q.toNat_lt; have := H2.out; omega), rfl⟩
set_option maxHeartbeats 400000 in
theorem refCrcSum_any (s : ByteArray) (w : World) (hs : s.size ≤ maxLen) :
    Calls Tryz.prog 59 #[.string s] w fun e w' => e = .returned (.int .u32 (crcMore 0 s.data.toList).toNat) ∧ w = w' := by
  have h := fun w => refMore_any 0 s w hs
  simp only [show ((0 : UInt32).toNat : Int) = 0 from rfl] at h
  have H := Lib.hid h; clear h
  go_enter Tryz.func59, Tryz.ntmps59
  go_wp2_with (go_at_call 82; refine (H.out _).mono ?_; rintro e w' ⟨rfl, rfl⟩)
  go_ret
  exact ⟨rfl, rfl⟩
set_option maxHeartbeats 400000 in
theorem crcBytes_any (c : UInt32) (w : World) :
    Calls Tryz.prog 49 #[.int .u32 c.toNat] w fun e w' => e = .returned (.string ⟨(crcBytes c).toArray⟩) ∧ Below w.heap.size w w' := by
  have hc := c.toNat_lt
  have H0 := Lib.hid (isBld_fresh w)
  have e0 := by0 c
  have e1 := by1 c
  have e2 := by2 c
  have e3 := by3 c
  unfold crcBytes
  generalize c.toUInt8 = q0 at *
  generalize (c >>> 8).toUInt8 = q1 at *
  generalize (c >>> 16).toUInt8 = q2 at *
  generalize (c >>> 24).toUInt8 = q3 at *
  go_enter Tryz.func49, Tryz.ntmps49
  go_wp2_with fail
  refine wp_loop_rounds 5 ?_
  rw [rounds_succ]
  go_wp2_with fail
  refine (bldByte_ok _ _ _ _ H0.out (by decide) (by simp)).mono ?_
  rintro e w1 ⟨rfl, h1, b1⟩
  have H1 := Lib.hid h1; clear h1
  have z1 : w.heap.size ≤ w1.heap.size := by have := b1.size; simp at this; omega
  go_wp2_with fail
  rw [rounds_succ]
  go_wp2_with fail
  refine (bldByte_ok _ _ _ _ H1.out (by simp) z1).mono ?_
  rintro e w2 ⟨rfl, h2, b2⟩
  have H2 := Lib.hid h2; clear h2
  have z2 := Nat.le_trans z1 b2.size
  go_wp2_with fail
  rw [rounds_succ]
  go_wp2_with fail
  refine (bldByte_ok _ _ _ _ H2.out (by simp) z2).mono ?_
  rintro e w3 ⟨rfl, h3, b3⟩
  have H3 := Lib.hid h3; clear h3
  have z3 := Nat.le_trans z2 b3.size
  go_wp2_with fail
  rw [rounds_succ]
  go_wp2_with fail
  refine (bldByte_ok _ _ _ _ H3.out (by simp) z3).mono ?_
  rintro e w4 ⟨rfl, h4, b4⟩
  have H4 := Lib.hid h4; clear h4
  go_wp2_with fail
  rw [rounds_succ]
  go_wp2_with fail
  refine (bldString_ok _ _ _ H4.out (by simp)).mono ?_
  rintro e w5 ⟨rfl, b5⟩
  go_wp2_with fail
  go_ret
  refine ⟨rfl, ?_⟩
  exact ((((((Below.refl _ _).alloc (Nat.le_refl _) _).trans b1).trans b2).trans b3).trans b4).trans b5
set_option maxHeartbeats 400000 in
theorem refCrcBytes_any (c : UInt32) (w : World) :
    Calls Tryz.prog 58 #[.int .u32 c.toNat] w fun e w' => e = .returned (.string ⟨(crcBytes c).toArray⟩) ∧ Below w.heap.size w w' := by
  have hc := c.toNat_lt
  have e0 := by0 c
  have e1 := by1 c
  have e2 := by2 c
  have e3 := by3 c
  unfold crcBytes
  generalize c.toUInt8 = q0 at *
  generalize (c >>> 8).toUInt8 = q1 at *
  generalize (c >>> 16).toUInt8 = q2 at *
  generalize (c >>> 24).toUInt8 = q3 at *
  have hk : (convert 83 9 (Value.slice (some { block := w.heap.size, off := 0 }) 4 4)).run Tryz.prog (w.alloc (Obj.cells #[Value.int IntKind.u8 ↑q0.toNat, Value.int IntKind.u8 ↑q1.toNat, Value.int IntKind.u8 ↑q2.toNat, Value.int IntKind.u8 ↑q3.toNat] 5)) = .ok (.string ⟨[q0, q1, q2, q3].toArray⟩) (w.alloc (Obj.cells #[Value.int IntKind.u8 ↑q0.toNat, Value.int IntKind.u8 ↑q1.toNat, Value.int IntKind.u8 ↑q2.toNat, Value.int IntKind.u8 ↑q3.toNat] 5)) := by
    refine run_bytes_str _ 83 9 5 Tryz.underlying83 Tryz.underlying5 Tryz.underlying9 _ _ _ _ _ rfl ?_
    intro i hi
    match i, hi with
    | 0, _ => simp
    | 1, _ => simp
    | 2, _ => simp
    | 3, _ => simp
  go_enter Tryz.func58, Tryz.ntmps58
  go_wp2_with fail
  go_ret
  refine ⟨rfl, ?_⟩
  exact (Below.refl _ _).alloc (Nat.le_refl _) _
end Go.Proofs.YtfpofcfoeajkiaaGreat
/- Plain: numbers as bytes, as functions on lists of bytes. No program in sight. -/
namespace Go.Proofs.YtfpofcfoeajkiaaGreat
/-- the number that 7 bits of each byte make -/
def vNum : List UInt8 → Nat
  | [] => 0
  | c :: s => c.toNat % 128 + 128 * vNum s
/-- what is told at byte c behind the bytes q: number, how many, error -/
def vOut (q : List UInt8) (c : UInt8) : Nat × Nat × Nat :=
  if q.length = 9 ∧ 1 < c.toNat then (0, 0, 4) else if c.toNat = 0 ∧ 0 < q.length then (0, 0, 2) else (vNum (q ++ [c]), q.length + 1, 0)
def vEnds (q : List UInt8) (c : UInt8) : Prop := (q.length = 9 ∧ 1 < c.toNat) ∨ c.toNat < 128
instance (q : List UInt8) (c : UInt8) : Decidable (vEnds q c) := inferInstanceAs (Decidable (_ ∨ _))
def vGo : List UInt8 → List UInt8 → Nat × Nat × Nat
  | _, [] => (0, 0, 1)
  | q, c :: s => if vEnds q c then vOut q c else vGo (q ++ [c]) s
def vTake (s : List UInt8) : Nat × Nat × Nat := vGo [] s
/-- the bytes that are handed out: up to the first below 128, at most n -/
def vAll : Nat → List UInt8 → List UInt8
  | 0, _ => []
  | _ + 1, [] => []
  | n + 1, c :: s => if c.toNat < 128 then [c] else c :: vAll n s
def vHigh (l : List UInt8) : Prop := ∀ c ∈ l, 128 ≤ c.toNat

theorem vHigh_snoc {l : List UInt8} {c : UInt8} (h : vHigh l) (hc : 128 ≤ c.toNat) : vHigh (l ++ [c]) := by
  intro x hx
  rcases List.mem_append.1 hx with hx | hx
  · exact h x hx
  · simp at hx; subst hx; exact hc
theorem vNum_snoc (l : List UInt8) (c : UInt8) : vNum (l ++ [c]) = vNum l + c.toNat % 128 * 2 ^ (7 * l.length) := by
  induction l with
  | nil => simp [vNum]
  | cons d l ih =>
    simp only [List.cons_append, vNum, ih, List.length_cons]
    rw [show 7 * (l.length + 1) = 7 + 7 * l.length by omega, Nat.pow_add, Nat.mul_add, Nat.mul_left_comm (c.toNat % 128)]
    omega
theorem vNum_lt (l : List UInt8) : vNum l < 2 ^ (7 * l.length) := by
  induction l with
  | nil => simp [vNum]
  | cons d l ih =>
    simp only [vNum, List.length_cons]
    rw [show 7 * (l.length + 1) = 7 + 7 * l.length by omega, Nat.pow_add]
    have : d.toNat % 128 < 128 := Nat.mod_lt _ (by decide)
    generalize 2 ^ (7 * l.length) = p at *
    omega
theorem vAll_step (n : Nat) (l : List UInt8) (c : UInt8) (hc : 128 ≤ c.toNat) (s : List UInt8) : l ++ vAll (n + 1) (c :: s) = (l ++ [c]) ++ vAll n s := by
  simp [vAll, show ¬ c.toNat < 128 by omega]
theorem vAll_len (n : Nat) : ∀ s, (vAll n s).length ≤ n := by
  induction n with
  | zero => intro s; simp [vAll]
  | succ n ih =>
    intro s
    cases s with
    | nil => simp [vAll]
    | cons c s =>
      simp only [vAll]
      split
      · simp
      · have := ih s; simp; exact this
/-- nothing ends it: too short -/
theorem vGo_short (n : Nat) : ∀ (q s : List UInt8), q.length + n = 10 → vHigh (vAll n s) → (vAll n s).length + q.length ≤ 9 → vGo q s = (0, 0, 1) := by
  induction n with
  | zero => intro q s h1 _ h3; simp [vAll] at h3; omega
  | succ n ih =>
    intro q s h1 h2 h3
    cases s with
    | nil => rfl
    | cons c s =>
      by_cases hc : c.toNat < 128
      · have := h2 c (by simp [vAll, hc]); omega
      · simp only [vAll, hc, if_false, List.length_cons] at h2 h3
        have hne : ¬ vEnds q c := by unfold vEnds; omega
        rw [vGo, if_neg hne]
        exact ih _ _ (by simp; omega) (fun x hx => h2 x (by simp [hx])) (by simp; omega)
theorem vTake_short (s : List UInt8) (h2 : vHigh (vAll 10 s)) (h3 : (vAll 10 s).length ≤ 9) : vTake s = (0, 0, 1) := vGo_short 10 [] s rfl h2 (by simpa using h3)
/-- it ends at c behind q -/
theorem vGo_ends (n : Nat) : ∀ (p q s : List UInt8) (c : UInt8), p.length + n ≤ 10 → q ++ [c] <+: vAll n s → vHigh q → (p ++ q).length ≤ 9 → vEnds (p ++ q) c → vGo p s = vOut (p ++ q) c := by
  induction n with
  | zero => intro p q s c _ h; simp [vAll] at h
  | succ n ih =>
    intro p q s c hp h hq hl he
    cases s with
    | nil => simp [vAll] at h
    | cons d s =>
      cases q with
      | nil =>
        simp only [List.nil_append, List.append_nil] at *
        have : c = d := by
          simp only [vAll] at h
          split at h <;> simpa using h
        subst this
        rw [vGo, if_pos he]
      | cons e q =>
        simp only [vAll, List.cons_append] at h
        have he0 := hq e (by simp)
        split at h
        · rename_i hd
          obtain ⟨rfl, _⟩ := List.cons_prefix_cons.1 h
          omega
        · obtain ⟨rfl, h'⟩ := List.cons_prefix_cons.1 h
          have hne : ¬ vEnds p e := by unfold vEnds; simp at hl; omega
          rw [vGo, if_neg hne, ih (p ++ [e]) q s c (by simp; omega) h' (fun x hx => hq x (by simp [hx])) (by simpa using hl) (by simpa using he)]
          simp
theorem vTake_ends (q s : List UInt8) (c : UInt8) (h : q ++ [c] <+: vAll 10 s) (hq : vHigh q) (hl : q.length ≤ 9) (he : vEnds q c) : vTake s = vOut q c := vGo_ends 10 [] q s c (by simp) h hq hl he
end Go.Proofs.YtfpofcfoeajkiaaGreat
/- varint.groups: its iterator's contract. -/
namespace Go.Proofs.YtfpofcfoeajkiaaGreat
open Go.RowKit Go.Shelf
attribute [local go_sem] Oper.semAt_some
theorem groups_in (F : Fence) (n : Nat) (h51 : F.fn 72) (hro : F.round = none) (s : ByteArray) (w : World) :
    CallsIn F n Tryz.prog 72 #[.string s] w fun e w' => e = .returned (.func (.func 95) #[] #[.pointer (some ⟨w.heap.size, 0, none⟩)]) ∧ w.alloc (.cells #[.string s] 9) = w' := by
  refine callsIn_of_wp Tryz.func72 rfl h51 ?_ hro
  simp only [Tryz.ntmps72, List.size_toArray, List.length_cons, List.length_nil, Nat.reduceAdd, Nat.reduceSub, Array.replicate_succ, Array.replicate_zero, List.push_toArray, List.append_toArray, List.nil_append, List.cons_append]
  gi_wp2
  go_ret
  exact ⟨rfl, rfl⟩
/-- what a round keeps: a box's cell -/
def KpCell (b : Nat) (v : Value) (W W' : World) : Prop := W.cell? ⟨b, 0, none⟩ = some v → W'.cell? ⟨b, 0, none⟩ = some v
theorem kpCell_t {b : Nat} {v : Value} {A B C : World} (h : KpCell b v A B) (k : KpCell b v B C) : KpCell b v A C := fun x => k (h x)
theorem kpCell_b {b : Nat} {v : Value} (W : World) (l : Nat) (o o' : Obj) (h : W.heap[l]? = some o) (hc : o.isCells = false) : KpCell b v W (W.putObj l o') := fun hcell => by
  exact cell_kept hcell (grownBy_putObj' W l o') (fun r e => by cases e; exact ⟨o, h, hc⟩)
theorem kpCell_set {b : Nat} {v : Value} (W : World) (b' : Nat) (u : Value) (hne : b ≠ b') : KpCell b v W (W.setCell ⟨b', 0, none⟩ u) := fun h => by
  rw [World.cell?_setCell_other W ⟨b', 0, none⟩ ⟨b, 0, none⟩ u (by intro e; injection e with e; exact hne (by omega))]; exact h
def gEnc (c : UInt8) : Array Value := #[.int .u64 ((c.toNat : Int) % 128), .bool (decide ((c.toNat : Int) < 128))]
theorem u8_and127 (c : UInt8) : bits .and .u8 (c.toNat : Int) (127 : Int) = (c.toNat : Int) % 128 := by
  rw [u8_and _ _ (by omega) (by have := c.toNat_lt; omega) (by decide) (by decide)]
  simp [nat_mask7]
theorem drop_cons (s : ByteArray) (k : Nat) (h : k < s.size) : s.data.toList.drop k = s[k] :: s.data.toList.drop (k + 1) := by
  rw [List.drop_eq_getElem_cons (by simpa using h)]; rfl
set_option maxRecDepth 100000 in
set_option maxHeartbeats 2000000 in
theorem groups1_stops (F : Fence) (n : Nat) (h54 : F.fn 95) (hro : F.round = none) (hn : 1 ≤ n) (Bn : Nat) (s : ByteArray) (hs : s.size ≤ maxLen) (w : World) (hBn : w.cell? ⟨Bn, 0, none⟩ = some (.string s)) (hlt : Bn < w.heap.size) :
    SeqStopsK F n Tryz.prog 95 #[.pointer (some ⟨Bn, 0, none⟩)] gEnc (KpCell Bn (.string s)) (fun xs => xs = vAll 10 s.data.toList) (fun pre => pre <+: vAll 10 s.data.toList) 10 w := fun l J Jx W hW hJ hJx hY h0 => by
  have hcW : W.cell? ⟨Bn, 0, none⟩ = some (.string s) := (hW.cell (p := ⟨Bn, 0, none⟩) (by simpa using hlt)).trans hBn
  unfold maxLen at hs
  by_cases h10 : s.size ≤ 10
  all_goals
    refine callsIn_of_wp Tryz.func95 rfl h54 ?_ hro
    simp only [Tryz.ntmps95, List.size_toArray, List.length_cons, List.length_nil, Nat.reduceAdd, Nat.reduceSub, Array.replicate_succ, Array.replicate_zero, List.push_toArray, List.append_toArray, List.nil_append, List.cons_append]
    gi_wp2
    gi_loopw [3, 4, 8] (fun _ _ i wr => ∃ k : Nat, (k ≤ s.size ∧ k ≤ 10) ∧ i = .int .i64 k ∧ Hid (vAll 10 s.data.toList = s.data.toList.take k ++ vAll (10 - k) (s.data.toList.drop k)) ∧ J (s.data.toList.take k) wr ∧ wr.cell? ⟨Bn, 0, none⟩ = some (.string s)) (fun _ _ i _ => 10 - (intOf i).toNat)
    case atStart => exact ⟨0, ⟨Nat.zero_le _, Nat.zero_le _⟩, rfl, by simp [Hid], by simpa using h0, hcW⟩
    case round =>
      obtain ⟨k, ⟨hk, hk10⟩, rfl, HV, hJs, hcell⟩ := hrel
      by_cases hlt2 : k < s.size ∧ k < 10
      · obtain ⟨hks, hk1⟩ := hlt2
        have HT := Lib.hid (take_snoc s k hks)
        have HD := Lib.hid (drop_cons s k hks)
        have hb := u8_and127 s[k]
        have hc8 := s[k].toNat_lt
        have hlen : (s.data.toList.take k).length < 10 := by rw [List.length_take]; omega
        obtain ⟨fn, tmps, assign, body, hy, hR⟩ := hY (s.data.toList.take k) s[k] wr hJs hlen
        dsimp only [gEnc] at hy
        have HP : Hid (s.data.toList.take k ++ [s[k]] <+: vAll 10 s.data.toList) := by
          unfold Hid
          rw [HV.out, HD.out]
          obtain ⟨m, hm⟩ : ∃ m, 10 - k = m + 1 := ⟨9 - k, by omega⟩
          rw [hm, vAll]
          split
          · exact List.prefix_refl _
          · exact ⟨vAll m (List.drop (k + 1) s.data.toList), by simp⟩
        by_cases hc : s[k].toNat < 128
        · have HE : Hid (s.data.toList.take k ++ [s[k]] = vAll 10 s.data.toList) := by
            unfold Hid
            rw [HV.out, HD.out]
            obtain ⟨m, hm⟩ : ∃ m, 10 - k = m + 1 := ⟨9 - k, by omega⟩
            rw [hm, vAll, if_pos hc]
          gi_wp2
          refine hR.mono ?_
          rintro e W3 (⟨rfl, hJ3, hk3⟩ | ⟨rfl, hJx3⟩)
          · have hcell3 : W3.cell? ⟨Bn, 0, none⟩ = some (.string s) := hk3 hcell
            gi_wp2
            refine bodyPost_ret (results_none rfl _ _ _) rfl ?_
            exact ⟨⟨_, rfl⟩, .inl ⟨_, HE.out, hJ3⟩⟩
          · gi_wp2
            refine bodyPost_ret (results_none rfl _ _ _) rfl ?_
            exact ⟨⟨_, rfl⟩, .inr ⟨_, HP.out, hJx3⟩⟩
        · have HE : Hid (vAll 10 s.data.toList = s.data.toList.take (k + 1) ++ vAll (10 - (k + 1)) (s.data.toList.drop (k + 1))) := by
            unfold Hid
            rw [HT.out]
            rw [HV.out, HD.out]
            obtain ⟨m, hm⟩ : ∃ m, 10 - k = m + 1 := ⟨9 - k, by omega⟩
            rw [hm, show 10 - (k + 1) = m by omega]
            exact vAll_step _ _ _ (by omega) _
          gi_wp2
          refine hR.mono ?_
          rintro e W3 (⟨rfl, hJ3, hk3⟩ | ⟨rfl, hJx3⟩)
          · have hcell3 : W3.cell? ⟨Bn, 0, none⟩ = some (.string s) := hk3 hcell
            gi_wp2
            go_roundw
            case rel => exact ⟨k + 1, by omega, by go_num, HE, by rw [HT.out]; exact hJ3, hcell3⟩
            case measure => simp [intOf]; omega
          · gi_wp2
            refine bodyPost_ret (results_none rfl _ _ _) rfl ?_
            exact ⟨⟨_, rfl⟩, .inr ⟨_, HP.out, hJx3⟩⟩
      · have HE : Hid (vAll 10 s.data.toList = s.data.toList.take k) := by
          unfold Hid
          rw [HV.out]
          by_cases hks : k < s.size
          · rw [show 10 - k = 0 by omega]; simp [vAll]
          · rw [List.drop_of_length_le (by simp; omega)]
            cases 10 - k <;> simp [vAll]
        gi_wp2
        go_end0
        exact ⟨⟨_, rfl⟩, .inl ⟨_, rfl, by rw [HE.out]; exact hJs⟩⟩
end Go.Proofs.YtfpofcfoeajkiaaGreat
