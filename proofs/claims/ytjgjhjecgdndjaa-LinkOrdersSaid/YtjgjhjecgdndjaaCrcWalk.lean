/- The walks of package crc. -/
import Derived.Test.YtjgjhjecgdndjaaProg
import Derived.Test.YtjgjhjecgdndjaaWords
import Derived.Test.YtjgjhjecgdndjaaCrcSpec
import Derived.Test.YtjgjhjecgdndjaaCrcLaws
import Derived.Test.YtjgjhjecgdndjaaBuilder
import Derived.WalkKit
import Derived.WalkSpells
import Derived.WalkLawsBesides
import Derived.Lib.Hide
namespace Go.Proofs.Ytjgjhjecgdndjaa
open Go.RowKit
set_option maxHeartbeats 400000 in
theorem crcStep_any (c : UInt32) (b : UInt8) (w : World) :
    Calls Try.prog 68 #[.int .u32 c.toNat, .int .u8 b.toNat] w fun e w' => e = .returned (.int .u32 (crcB c b).toNat) ∧ w = w' := by
  have hc := c.toNat_lt
  have hb := b.toNat_lt
  have hx := x32b c b
  have hB : crcB c b = crcN 8 (c ^^^ b.toUInt32) := rfl
  rw [hB]
  generalize c ^^^ b.toUInt32 = d at *
  clear hB
  go_enter Try.func68, Try.ntmps68
  go_wp2
  go_loop [0, 9] (fun c i => ∃ k : Nat, k ≤ 8 ∧ i = .int .i64 k ∧ c = .int .u32 (crcN k d).toNat) (fun _ i => 8 - (intOf i).toNat)
  case atStart => exact ⟨0, Nat.zero_le _, rfl, rfl⟩
  case round =>
    obtain ⟨k, hk, rfl, rfl⟩ := hrel
    generalize hs : crcN k d = s at *
    have hsl := s.toNat_lt
    have Hs := Lib.hid hs; clear hs
    by_cases hlt : k < 8
    · go_wp2
      go_round
      case rel =>
        refine ⟨k + 1, by omega, by go_num, ?_⟩
        congr 1
        rw [show (1 : Int) = ((1 : UInt32).toNat : Int) from rfl, show (2197175160 : Int) = ((2197175160 : UInt32).toNat : Int) from rfl]
        simp only [x32, a32, ng32, sr32]
        rw [crcN, Hs.out, crcF]
      case measure => simp [intOf]; omega
    · go_wp2
      go_ret
      obtain rfl : k = 8 := by omega
      exact ⟨by rw [Hs.out]; rfl, rfl⟩
set_option maxHeartbeats 400000 in
theorem crcLit_any (c : UInt32) (b : UInt8) (w : World) :
    Calls Try.prog 67 #[.int .u32 c.toNat, .int .u8 b.toNat] w fun e w' => e = .returned (.int .u32 (crcB c b).toNat) ∧ w = w' := by
  go_enter Try.func67, Try.ntmps67
  go_wp2_with (go_at_call 68; refine (crcStep_any _ _ _).mono ?_; rintro e w' ⟨rfl, rfl⟩)
  go_ret
  exact ⟨rfl, rfl⟩
set_option maxHeartbeats 400000 in
theorem crcFold_any (c : UInt32) (s : ByteArray) (w : World) (hs : s.size ≤ maxLen) :
    Calls Try.prog 66 #[.int .u32 c.toNat, .string s, .func (.func 67) #[] #[]] w fun e w' => e = .returned (.int .u32 (crcFold c s.data.toList).toNat) ∧ w = w' := by
  unfold maxLen at hs
  go_enter Try.func66, Try.ntmps66
  go_wp2
  go_loop [0, 7, 10] (fun x _ i => ∃ k : Nat, k ≤ s.size ∧ i = .int .i64 k ∧ x = .int .u32 (crcFold c (s.data.toList.take k)).toNat) (fun _ _ i => s.size - (intOf i).toNat)
  case atStart => exact ⟨0, Nat.zero_le _, rfl, rfl⟩
  case round =>
    obtain ⟨k, hk, rfl, rfl⟩ := hrel
    by_cases hlt : k < s.size
    · have Hn : Hid (crcFold c (s.data.toList.take (k + 1)) = crcB (crcFold c (s.data.toList.take k)) s[k]) := by
        rw [take_snoc s k hlt]; exact crcFold_snoc _ _ _
      generalize crcFold c (s.data.toList.take k) = d at *
      go_wp2_with (go_at_call 67; refine (crcLit_any _ _ _).mono ?_; rintro e w' ⟨rfl, rfl⟩)
      go_round
      case rel => exact ⟨k + 1, by omega, by go_num, by rw [Hn.out]⟩
      case measure => simp [intOf]; omega
    · have ht := take_all s k (by omega)
      go_wp2
      go_ret
      exact ⟨by first | rfl | rw [ht], rfl⟩
set_option maxHeartbeats 400000 in
theorem crcMore_any (c : UInt32) (s : ByteArray) (w : World) (hs : s.size ≤ maxLen) :
    Calls Try.prog 58 #[.int .u32 c.toNat, .string s] w fun e w' => e = .returned (.int .u32 (crcMore c s.data.toList).toNat) ∧ w = w' := by
  have h1 := n32 c
  have h2 := n32 (crcFold (~~~c) s.data.toList)
  have h3 : crcMore c s.data.toList = ~~~(crcFold (~~~c) s.data.toList) := rfl
  rw [h3]
  have hc := crcFold_any (~~~c) s
  generalize crcFold (~~~c) s.data.toList = r at *
  generalize ~~~c = d at *
  generalize ~~~r = q at *
  clear h3
  have H := Lib.hid hc; clear hc
  have hsg : IntKind.u32.signed = false := rfl
  have hmx : IntKind.u32.max = 4294967295 := rfl
  go_enter Try.func58, Try.ntmps58
  go_wp2_with (go_at_call 66; refine (H.out _ hs).mono ?_; rintro e w' ⟨rfl, rfl⟩)
  go_ret
  exact ⟨rfl, rfl⟩
set_option maxHeartbeats 400000 in
theorem crcSum_any (s : ByteArray) (w : World) (hs : s.size ≤ maxLen) :
    Calls Try.prog 40 #[.string s] w fun e w' => e = .returned (.int .u32 (crcMore 0 s.data.toList).toNat) ∧ w = w' := by
  have h := fun w => crcMore_any 0 s w hs
  simp only [show ((0 : UInt32).toNat : Int) = 0 from rfl] at h
  have H := Lib.hid h; clear h
  go_enter Try.func40, Try.ntmps40
  go_wp2_with (go_at_call 58; refine (H.out _).mono ?_; rintro e w' ⟨rfl, rfl⟩)
  go_ret
  exact ⟨rfl, rfl⟩
theorem crcF_odd (c : UInt32) (h : c.toNat % 2 = 1) : bits .xor .u32 ((c.toNat : Int) / (2 : Int)) (2197175160 : Int) = ((crcF c).toNat : Int) := by
  rw [crcF_cases, if_pos h, show (2197175160 : Int) = ((2197175160 : UInt32).toNat : Int) from rfl, sr32, x32]
theorem crcF_even (c : UInt32) (h : c.toNat % 2 = 0) : (c.toNat : Int) / (2 : Int) = ((crcF c).toNat : Int) := by
  rw [crcF_cases, if_neg (by omega), sr32]
set_option maxHeartbeats 400000 in
theorem refMore_any (c : UInt32) (s : ByteArray) (w : World) (hs : s.size ≤ maxLen) :
    Calls Try.prog 60 #[.int .u32 c.toNat, .string s] w fun e w' => e = .returned (.int .u32 (crcMore c s.data.toList).toNat) ∧ w = w' := by
  unfold maxLen at hs
  have h1 := not_sub32 c
  have Hm : Hid (crcMore c s.data.toList = ~~~(crcFold (~~~c) s.data.toList)) := rfl
  rw [Hm.out]
  generalize ~~~c = d at *
  have h2 := not_sub32 (crcFold d s.data.toList)
  generalize ~~~(crcFold d s.data.toList) = q at *
  have H2 := Lib.hid h2; clear h2
  go_enter Try.func60, Try.ntmps60
  go_wp2_with fail
  go_loop [0, 5, 6] (fun x i _ => ∃ k : Nat, k ≤ s.size ∧ i = .int .i64 k ∧ x = .int .u32 (crcFold d (s.data.toList.take k)).toNat) (fun _ i _ => s.size - (intOf i).toNat)
  case atStart => exact ⟨0, Nat.zero_le _, rfl, rfl⟩
  case round =>
    obtain ⟨k, hk, rfl, rfl⟩ := hrel
    by_cases hlt : k < s.size
    · have Hn : Hid (crcFold d (s.data.toList.take (k + 1)) = crcN 8 ((crcFold d (s.data.toList.take k)) ^^^ s[k].toUInt32)) := by
        rw [take_snoc s k hlt]; exact crcFold_snoc _ _ _
      generalize crcFold d (s.data.toList.take k) = y at *
      have hx := x32b y s[k]
      have hsk := s[k].toNat_lt
      generalize y ^^^ s[k].toUInt32 = z at *
      go_wp2_with fail
      go_loop [0, 6] (fun x i => ∃ j : Nat, j ≤ 8 ∧ i = .int .i64 j ∧ x = .int .u32 (crcN j z).toNat) (fun _ i => 8 - (intOf i).toNat)
      case atStart => exact ⟨0, Nat.zero_le _, rfl, rfl⟩
      case round =>
        obtain ⟨j, hj, rfl, rfl⟩ := hrel
        generalize hs' : crcN j z = v at *
        have hv := v.toNat_lt
        have Hv := Lib.hid hs'; clear hs'
        by_cases hl : j < 8
        · rcases Nat.mod_two_eq_zero_or_one v.toNat with he | he
          · have e1 := crcF_even v he
            have e2 : ((v.toNat : Int) % 2 == 1) = false := by simp; omega
            have H1 : Hid (crcN (j + 1) z = crcF v) := by show crcF (crcN j z) = _; rw [Hv.out]
            clear he
            generalize crcF v = r at *
            go_wp2_with fail
            go_round
            case rel => exact ⟨j + 1, by omega, by go_num, by rw [H1.out]⟩
            case measure => simp [intOf]; omega
          · have e1 := crcF_odd v he
            have e2 : ((v.toNat : Int) % 2 == 1) = true := by simp; omega
            have H1 : Hid (crcN (j + 1) z = crcF v) := by show crcF (crcN j z) = _; rw [Hv.out]
            clear he
            generalize crcF v = r at *
            go_wp2_with fail
            go_round
            case rel => exact ⟨j + 1, by omega, by go_num, by rw [H1.out]⟩
            case measure => simp [intOf]; omega
        · obtain rfl : j = 8 := by omega
          go_wp2_with fail
          go_round
          case rel => exact ⟨k + 1, by omega, by go_num, by rw [Hn.out, Hv.out]⟩
          case measure => simp [intOf]; omega
    · have ht := take_all s k (by omega)
      go_wp2_with fail
      go_ret
      exact ⟨ret_int (by have := q.toNat_lt; have := H2.out; omega), rfl⟩
set_option maxHeartbeats 400000 in
theorem refCrcSum_any (s : ByteArray) (w : World) (hs : s.size ≤ maxLen) :
    Calls Try.prog 44 #[.string s] w fun e w' => e = .returned (.int .u32 (crcMore 0 s.data.toList).toNat) ∧ w = w' := by
  have h := fun w => refMore_any 0 s w hs
  simp only [show ((0 : UInt32).toNat : Int) = 0 from rfl] at h
  have H := Lib.hid h; clear h
  go_enter Try.func44, Try.ntmps44
  go_wp2_with (go_at_call 60; refine (H.out _).mono ?_; rintro e w' ⟨rfl, rfl⟩)
  go_ret
  exact ⟨rfl, rfl⟩
set_option maxHeartbeats 400000 in
theorem crcBytes_any (c : UInt32) (w : World) :
    Calls Try.prog 39 #[.int .u32 c.toNat] w fun e w' => e = .returned (.string ⟨(crcBytes c).toArray⟩) ∧ Below w.heap.size w w' := by
  have hc := c.toNat_lt
  have H0 := Lib.hid (isBld_fresh w)
  have e0 := by0 c
  have e1 := by1 c
  have e2 := by2 c
  have e3 := by3 c
  unfold crcBytes
  generalize c.toUInt8 = q0 at *
  generalize (c >>> 8).toUInt8 = q1 at *
  generalize (c >>> 16).toUInt8 = q2 at *
  generalize (c >>> 24).toUInt8 = q3 at *
  go_enter Try.func39, Try.ntmps39
  go_wp2_with fail
  refine wp_loop_rounds 5 ?_
  rw [rounds_succ]
  go_wp2_with fail
  refine (bldByte_ok _ _ _ _ H0.out (by decide) (by simp)).mono ?_
  rintro e w1 ⟨rfl, h1, b1⟩
  have H1 := Lib.hid h1; clear h1
  have z1 : w.heap.size ≤ w1.heap.size := by have := b1.size; simp at this; omega
  go_wp2_with fail
  rw [rounds_succ]
  go_wp2_with fail
  refine (bldByte_ok _ _ _ _ H1.out (by simp) z1).mono ?_
  rintro e w2 ⟨rfl, h2, b2⟩
  have H2 := Lib.hid h2; clear h2
  have z2 := Nat.le_trans z1 b2.size
  go_wp2_with fail
  rw [rounds_succ]
  go_wp2_with fail
  refine (bldByte_ok _ _ _ _ H2.out (by simp) z2).mono ?_
  rintro e w3 ⟨rfl, h3, b3⟩
  have H3 := Lib.hid h3; clear h3
  have z3 := Nat.le_trans z2 b3.size
  go_wp2_with fail
  rw [rounds_succ]
  go_wp2_with fail
  refine (bldByte_ok _ _ _ _ H3.out (by simp) z3).mono ?_
  rintro e w4 ⟨rfl, h4, b4⟩
  have H4 := Lib.hid h4; clear h4
  go_wp2_with fail
  rw [rounds_succ]
  go_wp2_with fail
  refine (bldString_ok _ _ _ H4.out (by simp)).mono ?_
  rintro e w5 ⟨rfl, b5⟩
  go_wp2_with fail
  go_ret
  refine ⟨rfl, ?_⟩
  exact ((((((Below.refl _ _).alloc (Nat.le_refl _) _).trans b1).trans b2).trans b3).trans b4).trans b5
set_option maxHeartbeats 400000 in
theorem refCrcBytes_any (c : UInt32) (w : World) :
    Calls Try.prog 43 #[.int .u32 c.toNat] w fun e w' => e = .returned (.string ⟨(crcBytes c).toArray⟩) ∧ Below w.heap.size w w' := by
  have hc := c.toNat_lt
  have e0 := by0 c
  have e1 := by1 c
  have e2 := by2 c
  have e3 := by3 c
  unfold crcBytes
  generalize c.toUInt8 = q0 at *
  generalize (c >>> 8).toUInt8 = q1 at *
  generalize (c >>> 16).toUInt8 = q2 at *
  generalize (c >>> 24).toUInt8 = q3 at *
  have hk : (convert 84 9 (Value.slice (some { block := w.heap.size, off := 0 }) 4 4)).run Try.prog (w.alloc (Obj.cells #[Value.int IntKind.u8 ↑q0.toNat, Value.int IntKind.u8 ↑q1.toNat, Value.int IntKind.u8 ↑q2.toNat, Value.int IntKind.u8 ↑q3.toNat] 5)) = .ok (.string ⟨[q0, q1, q2, q3].toArray⟩) (w.alloc (Obj.cells #[Value.int IntKind.u8 ↑q0.toNat, Value.int IntKind.u8 ↑q1.toNat, Value.int IntKind.u8 ↑q2.toNat, Value.int IntKind.u8 ↑q3.toNat] 5)) := by
    refine run_bytes_str _ 84 9 5 Try.underlying84 Try.underlying5 Try.underlying9 _ _ _ _ _ rfl ?_
    intro i hi
    match i, hi with
    | 0, _ => simp
    | 1, _ => simp
    | 2, _ => simp
    | 3, _ => simp
  go_enter Try.func43, Try.ntmps43
  go_wp2_with fail
  go_ret
  refine ⟨rfl, ?_⟩
  exact (Below.refl _ _).alloc (Nat.le_refl _) _
end Go.Proofs.Ytjgjhjecgdndjaa
