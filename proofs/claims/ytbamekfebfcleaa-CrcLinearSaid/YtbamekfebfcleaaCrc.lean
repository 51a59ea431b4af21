/- The statements of chapter 2 (crc), as walks of the laws over the contracts of their callees. -/
import Derived.Test.YtbamekfebfcleaaCrcWalk
import Derived.Test.YtbamekfebfcleaaArgs
namespace Go.Proofs.Ytbamekfebfcleaa
open Go.RowKit
set_option maxHeartbeats 400000 in
theorem crcAwake_any (w : World) : Calls Try.prog 18 #[] w fun e w' => e = .returned (.bool true) ∧ w = w' := by
  have h1 := fun w => crcSum_any ⟨#[49, 50, 51, 52, 53, 54, 55, 56, 57]⟩ w (by decide)
  have h2 := fun w => crcSum_any ⟨#[]⟩ w (by decide)
  simp only [crc_nine, crcMore_nil] at h1 h2
  rw [show (3808858755 : UInt32).toNat = 3808858755 from rfl] at h1
  rw [show (0 : UInt32).toNat = 0 from rfl] at h2
  have H1 := Lib.hid h1; clear h1
  have H2 := Lib.hid h2; clear h2
  go_enter Try.func18, Try.ntmps18
  go_wp2_with fail
  refine (H1.out _).mono ?_
  rintro e w' ⟨rfl, rfl⟩
  go_wp2_with fail
  refine (H2.out _).mono ?_
  rintro e w' ⟨rfl, rfl⟩
  go_wp2_with fail
  go_ret
  exact ⟨rfl, rfl⟩
theorem crcMore_cat (c : UInt32) (a b : ByteArray) (w : World) (h : (a ++ b).size ≤ maxLen) : Calls Try.prog 19 #[.int .u32 c.toNat, .string (a ++ b)] w fun e w' => e = .returned (.int .u32 (crcMore (crcMore c a.data.toList) b.data.toList).toNat) ∧ w = w' := by
  have := crcMore_any c (a ++ b) w h
  rwa [toList_append, crcMore_append] at this
theorem crcSum_cat (a b : ByteArray) (w : World) (h : (a ++ b).size ≤ maxLen) : Calls Try.prog 20 #[.string (a ++ b)] w fun e w' => e = .returned (.int .u32 (crcMore (crcMore 0 a.data.toList) b.data.toList).toNat) ∧ w = w' := by
  have := crcSum_any (a ++ b) w h
  rwa [toList_append, crcMore_append] at this
theorem crcMore_none (c : UInt32) (w : World) : Calls Try.prog 19 #[.int .u32 c.toNat, .string ⟨#[]⟩] w fun e w' => e = .returned (.int .u32 c.toNat) ∧ w = w' := by
  have := crcMore_any c ⟨#[]⟩ w (by decide)
  simpa only [crcMore_nil] using this
set_option maxHeartbeats 400000 in
theorem crcParts_ok (w : World) (a : ByteArray) (_w0 : a.size ≤ 140737488351232) (b : ByteArray) (_w1 : b.size ≤ 140737488351232) (c : UInt32) :
    Calls Try.prog 3 #[.string a, .string b, .int .u32 c.toNat] w fun e w' => e = .returned (.bool true) ∧ Below w.heap.size w w' := by
  by_cases ha : 5000 < a.size
  · go_enter Try.func3, Try.ntmps3
    go_wp2_with (go_at_call 18; refine (crcAwake_any _).mono ?_; rintro e w' ⟨rfl, rfl⟩)
    go_ret
    exact ⟨rfl, Below.refl _ _⟩
  by_cases hb : 5000 < b.size
  · go_enter Try.func3, Try.ntmps3
    go_wp2_with (go_at_call 18; refine (crcAwake_any _).mono ?_; rintro e w' ⟨rfl, rfl⟩)
    go_ret
    exact ⟨rfl, Below.refl _ _⟩
  have ma : a.size ≤ maxLen := by unfold maxLen; omega
  have mb : b.size ≤ maxLen := by unfold maxLen; omega
  have mab : (a ++ b).size ≤ maxLen := by unfold maxLen; simp; omega
  go_enter Try.func3, Try.ntmps3
  go_wp2_with fail
  refine (crcSum_any _ _ ma).mono ?_
  rintro e w' ⟨rfl, rfl⟩
  go_wp2_with fail
  refine (crcMore_any _ _ _ mb).mono ?_
  rintro e w' ⟨rfl, rfl⟩
  go_wp2_with fail
  refine (crcSum_cat _ _ _ mab).mono ?_
  rintro e w' ⟨rfl, rfl⟩
  go_wp2_with fail
  refine (crcMore_any _ _ _ ma).mono ?_
  rintro e w' ⟨rfl, rfl⟩
  go_wp2_with fail
  refine (crcMore_any _ _ _ mb).mono ?_
  rintro e w' ⟨rfl, rfl⟩
  go_wp2_with fail
  refine (crcMore_cat _ _ _ _ mab).mono ?_
  rintro e w' ⟨rfl, rfl⟩
  go_wp2_with fail
  refine (crcMore_none _ _).mono ?_
  rintro e w' ⟨rfl, rfl⟩
  go_wp2_with fail
  refine (crcAwake_any _).mono ?_
  rintro e w' ⟨rfl, rfl⟩
  go_wp2_with fail
  go_ret
  exact ⟨rfl, Below.refl _ _⟩
set_option maxHeartbeats 400000 in
theorem crcOne_main (W : World) (x0 : ByteArray) (x1 : ByteArray) (a b c d a' b' c' d' : UInt8) (h0 : x0.size ≤ 5000) (h1 : x1.size ≤ 5000) :
    Calls Try.prog 4 #[.string x0, .string x1, .agg #[.int .u8 a.toNat, .int .u8 b.toNat, .int .u8 c.toNat, .int .u8 d.toNat], .agg #[.int .u8 a'.toNat, .int .u8 b'.toNat, .int .u8 c'.toNat, .int .u8 d'.toNat]] W fun e w' => e = .returned (.bool true) ∧ Below W.heap.size W w' := by
  have hk1 : ∀ n, (convert 28 9 (Value.slice (some { block := W.heap.size, off := 0 }) 4 4)).run Try.prog (((W.alloc (Obj.cells #[Value.int IntKind.u8 ↑a.toNat, Value.int IntKind.u8 ↑b.toNat, Value.int IntKind.u8 ↑c.toNat, Value.int IntKind.u8 ↑d.toNat] 27)).alloc (Obj.cells #[Value.int IntKind.u8 ↑a'.toNat, Value.int IntKind.u8 ↑b'.toNat, Value.int IntKind.u8 ↑c'.toNat, Value.int IntKind.u8 ↑d'.toNat] 27)).drewN n) = .ok (.string ⟨[a,b,c,d].toArray⟩) (((W.alloc (Obj.cells #[Value.int IntKind.u8 ↑a.toNat, Value.int IntKind.u8 ↑b.toNat, Value.int IntKind.u8 ↑c.toNat, Value.int IntKind.u8 ↑d.toNat] 27)).alloc (Obj.cells #[Value.int IntKind.u8 ↑a'.toNat, Value.int IntKind.u8 ↑b'.toNat, Value.int IntKind.u8 ↑c'.toNat, Value.int IntKind.u8 ↑d'.toNat] 27)).drewN n) := fun n => by
    refine run_bytes_str _ 28 9 5 Try.underlying28 Try.underlying5 Try.underlying9 _ _ _ _ _ rfl ?_
    intro i hi
    match i, hi with
    | 0, _ => simp
    | 1, _ => simp
    | 2, _ => simp
    | 3, _ => simp
  have hk2 : ∀ n, (convert 28 9 (Value.slice (some { block := W.heap.size + 1, off := 0 }) 4 4)).run Try.prog (((W.alloc (Obj.cells #[Value.int IntKind.u8 ↑a.toNat, Value.int IntKind.u8 ↑b.toNat, Value.int IntKind.u8 ↑c.toNat, Value.int IntKind.u8 ↑d.toNat] 27)).alloc (Obj.cells #[Value.int IntKind.u8 ↑a'.toNat, Value.int IntKind.u8 ↑b'.toNat, Value.int IntKind.u8 ↑c'.toNat, Value.int IntKind.u8 ↑d'.toNat] 27)).drewN n) = .ok (.string ⟨[a',b',c',d'].toArray⟩) (((W.alloc (Obj.cells #[Value.int IntKind.u8 ↑a.toNat, Value.int IntKind.u8 ↑b.toNat, Value.int IntKind.u8 ↑c.toNat, Value.int IntKind.u8 ↑d.toNat] 27)).alloc (Obj.cells #[Value.int IntKind.u8 ↑a'.toNat, Value.int IntKind.u8 ↑b'.toNat, Value.int IntKind.u8 ↑c'.toNat, Value.int IntKind.u8 ↑d'.toNat] 27)).drewN n) := fun n => by
    refine run_bytes_str _ 28 9 5 Try.underlying28 Try.underlying5 Try.underlying9 _ _ _ _ _ rfl ?_
    intro i hi
    match i, hi with
    | 0, _ => simp
    | 1, _ => simp
    | 2, _ => simp
    | 3, _ => simp
  have sz : ∀ a b c d : UInt8, (ByteArray.mk #[a,b,c,d]).size = 4 := fun _ _ _ _ => rfl
  have s1 : ∀ w, (Op.stringOp .add x0 ⟨#[a,b,c,d]⟩).run Try.prog w = .ok (.string (x0 ++ ⟨#[a,b,c,d]⟩)) w := fun w => run_string_add_sum w _ _ (by rw [sz]; omega)
  have s2 : ∀ w, (Op.stringOp .add (x0 ++ ⟨#[a,b,c,d]⟩) x1).run Try.prog w = .ok (.string (x0 ++ ⟨#[a,b,c,d]⟩ ++ x1)) w := fun w => run_string_add_sum w _ _ (by rw [ByteArray.size_append, sz]; omega)
  have s3 : ∀ w, (Op.stringOp .add x0 ⟨#[a',b',c',d']⟩).run Try.prog w = .ok (.string (x0 ++ ⟨#[a',b',c',d']⟩)) w := fun w => run_string_add_sum w _ _ (by rw [sz]; omega)
  have s4 : ∀ w, (Op.stringOp .add (x0 ++ ⟨#[a',b',c',d']⟩) x1).run Try.prog w = .ok (.string (x0 ++ ⟨#[a',b',c',d']⟩ ++ x1)) w := fun w => run_string_add_sum w _ _ (by rw [ByteArray.size_append, sz]; omega)
  have c1 := fun w => crcSum_any (x0 ++ ⟨#[a,b,c,d]⟩ ++ x1) w (by simp only [ByteArray.size_append, sz]; unfold maxLen; omega)
  have c2 := fun w => crcSum_any (x0 ++ ⟨#[a',b',c',d']⟩ ++ x1) w (by simp only [ByteArray.size_append, sz]; unfold maxLen; omega)
  obtain ⟨q, hq1, hq2⟩ : ∃ q, (((crcMore 0 (x0 ++ ⟨#[a,b,c,d]⟩ ++ x1).data.toList).toNat : Int) == ((crcMore 0 (x0 ++ ⟨#[a',b',c',d']⟩ ++ x1).data.toList).toNat : Int)) = q ∧ ([a,b,c,d] == [a',b',c',d']) = q := by
    refine ⟨_, rfl, ?_⟩
    have := crc_one x0.data.toList x1.data.toList a b c d a' b' c' d'
    rw [Bool.eq_iff_iff, beq_iff_eq, beq_iff_eq, ← this, toList_append, toList_append, toList_append, toList_append, Int.ofNat_inj, UInt32.toNat_inj]
  have heq : ∀ w, (Op.equalIn 10000 27 (.agg #[Value.int IntKind.u8 ↑a.toNat, Value.int IntKind.u8 ↑b.toNat, Value.int IntKind.u8 ↑c.toNat, Value.int IntKind.u8 ↑d.toNat]) (.agg #[Value.int IntKind.u8 ↑a'.toNat, Value.int IntKind.u8 ↑b'.toNat, Value.int IntKind.u8 ↑c'.toNat, Value.int IntKind.u8 ↑d'.toNat])).run Try.prog w = .ok q w := fun w => by
    rw [← hq2]
    exact run_equalIn_bytes w 9998 27 5 4 Try.underlying27 Try.underlying5 (fun w => by kernel_rfl) [a,b,c,d] [a',b',c',d'] rfl rfl
  clear hq2
  generalize crcMore 0 (x0 ++ ⟨#[a,b,c,d]⟩ ++ x1).data.toList = r1 at *
  generalize crcMore 0 (x0 ++ ⟨#[a',b',c',d']⟩ ++ x1).data.toList = r2 at *
  clear sz
  have C1 := Lib.hid c1; clear c1
  have C2 := Lib.hid c2; clear c2
  go_enter Try.func4, Try.ntmps4
  go_wp2_with fail
  go_quiet (first | (go_at_call 20; exact quiet_same (C1.out _)) | (go_at_call 20; exact quiet_same (C2.out _)))
  go_wp2_with (go_at_call 18; refine (crcAwake_any _).mono ?_; rintro e w' ⟨rfl, rfl⟩)
  go_ret
  refine ⟨rfl, ?_⟩
  exact Below.drewN (((Below.refl _ _).alloc (Nat.le_refl _) _).alloc (by simp) _) _
set_option maxHeartbeats 400000 in
theorem crcOne_ok (W : World) (x0 : ByteArray) (_w0 : x0.size ≤ 140737488351232) (x1 : ByteArray) (_w1 : x1.size ≤ 140737488351232) (x2 : List UInt8) (w2 : x2.length = 4 ∧ ∀ y ∈ x2, True) (x3 : List UInt8) (w3 : x3.length = 4 ∧ ∀ y ∈ x3, True) :
    Calls Try.prog 4 #[.string x0, .string x1, .agg ((fun xs => List.flatMap EU8 xs) x2).toArray, .agg ((fun xs => List.flatMap EU8 xs) x3).toArray] W fun e w' => e = .returned (.bool true) ∧ Below W.heap.size W w' := by
  obtain ⟨h2, _⟩ := w2
  obtain ⟨h3, _⟩ := w3
  match x2, h2, x3, h3 with
  | [a, b, c, d], _, [a', b', c', d'], _ =>
    by_cases ha : 5000 < x0.size
    · simp only [EU8, List.flatMap_cons, List.flatMap_nil, List.cons_append, List.nil_append, List.append_nil]
      go_enter Try.func4, Try.ntmps4
      go_wp2_with (go_at_call 18; refine (crcAwake_any _).mono ?_; rintro e w' ⟨rfl, rfl⟩)
      go_ret
      exact ⟨rfl, ((Below.refl _ _).alloc (Nat.le_refl _) _).alloc (by simp) _⟩
    by_cases hb : 5000 < x1.size
    · simp only [EU8, List.flatMap_cons, List.flatMap_nil, List.cons_append, List.nil_append, List.append_nil]
      go_enter Try.func4, Try.ntmps4
      go_wp2_with (go_at_call 18; refine (crcAwake_any _).mono ?_; rintro e w' ⟨rfl, rfl⟩)
      go_ret
      exact ⟨rfl, ((Below.refl _ _).alloc (Nat.le_refl _) _).alloc (by simp) _⟩
    exact crcOne_main W x0 x1 a b c d a' b' c' d' (by omega) (by omega)
theorem str_beq (l : ByteArray) : (l.toList == l.toList) = true := by simp
set_option maxHeartbeats 400000 in
theorem crcTells_ok (W : World) (x0 : ByteArray) (_w0 : x0.size ≤ 140737488351232) (x1 : UInt32) :
    Calls Try.prog 6 #[.string x0, .int .u32 x1.toNat] W fun e w' => e = .returned (.bool true) ∧ Below W.heap.size W w' := by
  by_cases ha : 5000 < x0.size
  · go_enter Try.func6, Try.ntmps6
    go_wp2_with (go_at_call 18; refine (crcAwake_any _).mono ?_; rintro e w' ⟨rfl, rfl⟩)
    go_ret
    exact ⟨rfl, Below.refl _ _⟩
  have m0 : x0.size ≤ maxLen := by unfold maxLen; omega
  have hb := crcBytes_any x1
  have hr := refCrcBytes_any x1
  generalize crcBytes x1 = l at *
  have HB := Lib.hid hb; clear hb
  have HR := Lib.hid hr; clear hr
  go_enter Try.func6, Try.ntmps6
  go_wp2_with fail
  refine (crcSum_any _ _ m0).mono ?_
  rintro e w' ⟨rfl, rfl⟩
  go_wp2_with fail
  refine (refCrcSum_any _ _ m0).mono ?_
  rintro e w' ⟨rfl, rfl⟩
  go_wp2_with fail
  refine (crcMore_any _ _ _ m0).mono ?_
  rintro e w' ⟨rfl, rfl⟩
  go_wp2_with fail
  refine (refMore_any _ _ _ m0).mono ?_
  rintro e w' ⟨rfl, rfl⟩
  go_wp2_with fail
  refine (HB.out _).mono ?_
  rintro e w1 ⟨rfl, b1⟩
  go_wp2_with fail
  refine (HR.out _).mono ?_
  rintro e w2 ⟨rfl, b2⟩
  go_wp2_with fail
  refine (crcAwake_any _).mono ?_
  rintro e w' ⟨rfl, rfl⟩
  go_wp2_with fail
  go_ret
  exact ⟨rfl, b1.trans (b2.mono b1.size)⟩
theorem sl_or (n : UInt32) (q : UInt8) : (n <<< 8 ||| q.toUInt32).toNat = n.toNat * 256 % 4294967296 + q.toNat := by
  have hq := q.toNat_lt
  rw [UInt32.toNat_or]
  have h : (n <<< 8).toNat = n.toNat * 256 % 4294967296 := by simp [Nat.shiftLeft_eq]
  rw [h, nat_join 8 _ _ (by omega) (by simp; omega)]
  simp
theorem join4 (c : UInt32) : ((((c >>> 24).toUInt8.toUInt32 <<< 8 ||| (c >>> 16).toUInt8.toUInt32) <<< 8 ||| (c >>> 8).toUInt8.toUInt32) <<< 8 ||| c.toUInt8.toUInt32) = c := by
  apply UInt32.toNat_inj.1
  have hc := c.toNat_lt
  rw [sl_or, sl_or, sl_or]
  simp [Nat.shiftRight_eq_div_pow]
  omega
theorem sl32o (n : UInt32) (q : UInt8) : bits .or .u32 ((n.toNat : Int) * (256 : Int) % (4294967296 : Int)) (q.toNat : Int) = ((n <<< 8 ||| q.toUInt32).toNat : Int) := by
  have h : (n.toNat : Int) * (256 : Int) % (4294967296 : Int) = ((n <<< 8).toNat : Int) := by
    simp [Nat.shiftLeft_eq]
  rw [h, show (q.toNat : Int) = (q.toUInt32.toNat : Int) by simp, o32]
theorem or0 (q : UInt8) : bits .or .u32 (0 : Int) (q.toNat : Int) = (q.toUInt32.toNat : Int) := by
  rw [show (q.toNat : Int) = (q.toUInt32.toNat : Int) by simp, show (0 : Int) = ((0 : UInt32).toNat : Int) from rfl, o32]; simp
set_option maxHeartbeats 400000 in
theorem crcBytes_ok (W : World) (x0 : UInt32) :
    Calls Try.prog 7 #[.int .u32 x0.toNat] W fun e w' => e = .returned (.bool true) ∧ Below W.heap.size W w' := by
  have hb := crcBytes_any x0
  unfold crcBytes at hb
  have hj := join4 x0
  generalize x0.toUInt8 = q0 at *
  generalize (x0 >>> 8).toUInt8 = q1 at *
  generalize (x0 >>> 16).toUInt8 = q2 at *
  generalize (x0 >>> 24).toUInt8 = q3 at *
  have HB := Lib.hid hb; clear hb
  have l0 := q0.toNat_lt
  have l1 := q1.toNat_lt
  have l2 := q2.toNat_lt
  have l3 := q3.toNat_lt
  have g0 : ∀ h, ((⟨#[q0, q1, q2, q3]⟩ : ByteArray)[0]'h).toNat = q0.toNat := fun _ => rfl
  have g1 : ∀ h, ((⟨#[q0, q1, q2, q3]⟩ : ByteArray)[1]'h).toNat = q1.toNat := fun _ => rfl
  have g2 : ∀ h, ((⟨#[q0, q1, q2, q3]⟩ : ByteArray)[2]'h).toNat = q2.toNat := fun _ => rfl
  have g3 : ∀ h, ((⟨#[q0, q1, q2, q3]⟩ : ByteArray)[3]'h).toNat = q3.toNat := fun _ => rfl
  have f3 := or0 q3
  generalize q3.toUInt32 = n3 at *
  have f2 := sl32o n3 q2
  generalize (n3 <<< 8 ||| q2.toUInt32) = n2 at *
  have f1 := sl32o n2 q1
  generalize (n2 <<< 8 ||| q1.toUInt32) = n1 at *
  have f0 := sl32o n1 q0
  rw [hj] at f0
  clear hj
  go_enter Try.func7, Try.ntmps7
  go_wp2_with fail
  refine (HB.out _).mono ?_
  rintro e w1 ⟨rfl, b1⟩
  go_wp2_with fail
  refine wp_loop_rounds 5 ?_
  rw [rounds_succ]
  go_wp2_with fail
  rw [rounds_succ]
  go_wp2_with fail
  rw [rounds_succ]
  go_wp2_with fail
  rw [rounds_succ]
  go_wp2_with fail
  rw [rounds_succ]
  go_wp2_with fail
  refine (crcAwake_any _).mono ?_
  rintro e w' ⟨rfl, rfl⟩
  go_wp2_with fail
  go_ret
  exact ⟨rfl, b1⟩
end Go.Proofs.Ytbamekfebfcleaa
