/- The statements of chapter 5 (keys): sets' calls, awake, KeysOrder, KeysTexts. -/
import Derived.Test.YtjbnkheghafgoaaKeysMerge
import Derived.Test.YtjbnkheghafgoaaKeysSame
import Derived.Test.YtjbnkheghafgoaaKeysRef
import Derived.Shelf.Abstract
namespace Go.Proofs.Ytjbnkheghafgoaa
open Go.RowKit Go.Shelf
set_option linter.unusedVariables false
def kJoin (a b : List ByteArray) : List ByteArray := mMerge (fun _ _ => true) a b
def kBoth (a b : List ByteArray) : List ByteArray := mMerge (fun x y => x && y) a b
def kLess (a b : List ByteArray) : List ByteArray := mMerge (fun x y => x && !y) a b
theorem joinKeep_any (x y : Bool) (w : World) : Calls Try.prog 37 #[.bool x, .bool y] w fun e w' => e = .returned (.bool true) ∧ w = w' := by
  cases x <;> cases y
  all_goals
    go_enter Try.func37, Try.ntmps37
    go_wp2
    go_ret
    exact ⟨rfl, rfl⟩
theorem kJoin_any (w : World) (va vb : Value) (la lb : List ByteArray) (ha : StrsB w va la) (hb : StrsB w vb lb) (hl : la.length + lb.length ≤ 1000000) :
    Calls Try.prog 16 #[va, vb] w fun e w' => ∃ v, e = .returned v ∧ w'.ownsRow w.heap.size 9 1 v (kJoin la lb).length ((kJoin la lb).map .string) ∧ Below w.heap.size w w' := by
  have hm := merge_any 37 _ joinKeep_any (enters_of Try.func37 (by kernel_rfl) rfl) w va vb la lb ha hb hl
  have HM := Lib.hid hm; clear hm
  go_enter Try.func16, Try.ntmps16
  go_wp2_with fail
  refine HM.out.mono ?_
  rintro e w1 ⟨v, rfl, hown, b1⟩
  have HO := Lib.hid hown; clear hown
  go_wp2
  go_ret
  exact ⟨_, rfl, HO.out, b1⟩
theorem bothKeep_any (x y : Bool) (w : World) : Calls Try.prog 38 #[.bool x, .bool y] w fun e w' => e = .returned (.bool (x && y)) ∧ w = w' := by
  cases x <;> cases y
  all_goals
    go_enter Try.func38, Try.ntmps38
    go_wp2
    go_ret
    exact ⟨rfl, rfl⟩
theorem kBoth_any (w : World) (va vb : Value) (la lb : List ByteArray) (ha : StrsB w va la) (hb : StrsB w vb lb) (hl : la.length + lb.length ≤ 1000000) :
    Calls Try.prog 17 #[va, vb] w fun e w' => ∃ v, e = .returned v ∧ w'.ownsRow w.heap.size 9 1 v (kBoth la lb).length ((kBoth la lb).map .string) ∧ Below w.heap.size w w' := by
  have hm := merge_any 38 _ bothKeep_any (enters_of Try.func38 (by kernel_rfl) rfl) w va vb la lb ha hb hl
  have HM := Lib.hid hm; clear hm
  go_enter Try.func17, Try.ntmps17
  go_wp2_with fail
  refine HM.out.mono ?_
  rintro e w1 ⟨v, rfl, hown, b1⟩
  have HO := Lib.hid hown; clear hown
  go_wp2
  go_ret
  exact ⟨_, rfl, HO.out, b1⟩
theorem lessKeep_any (x y : Bool) (w : World) : Calls Try.prog 39 #[.bool x, .bool y] w fun e w' => e = .returned (.bool (x && !y)) ∧ w = w' := by
  cases x <;> cases y
  all_goals
    go_enter Try.func39, Try.ntmps39
    go_wp2
    go_ret
    exact ⟨rfl, rfl⟩
theorem kLess_any (w : World) (va vb : Value) (la lb : List ByteArray) (ha : StrsB w va la) (hb : StrsB w vb lb) (hl : la.length + lb.length ≤ 1000000) :
    Calls Try.prog 18 #[va, vb] w fun e w' => ∃ v, e = .returned v ∧ w'.ownsRow w.heap.size 9 1 v (kLess la lb).length ((kLess la lb).map .string) ∧ Below w.heap.size w w' := by
  have hm := merge_any 39 _ lessKeep_any (enters_of Try.func39 (by kernel_rfl) rfl) w va vb la lb ha hb hl
  have HM := Lib.hid hm; clear hm
  go_enter Try.func18, Try.ntmps18
  go_wp2_with fail
  refine HM.out.mono ?_
  rintro e w1 ⟨v, rfl, hown, b1⟩
  have HO := Lib.hid hown; clear hown
  go_wp2
  go_ret
  exact ⟨_, rfl, HO.out, b1⟩
theorem strsB_one (w : World) (s : ByteArray) : StrsB (w.alloc (.cells #[.string s] 9)) (.slice (some ⟨w.heap.size, 0, none⟩) 1 1) [s] :=
  ⟨_, 1, rfl, Nat.le_refl _, by unfold maxLen; omega, fun _ => ⟨w.heap.size, 0, rfl, by simp, fun j hj => by
    have : j = 0 := by simp at hj; omega
    subst this; simp⟩⟩
theorem kJoin_one (s : ByteArray) : kJoin [s] [s] = [s] := by unfold kJoin; rw [mMerge_xy, less_irrefl, mMerge_nn]; rfl
theorem kLess_one (s : ByteArray) : kLess [s] [s] = [] := by unfold kLess; rw [mMerge_xy, less_irrefl, mMerge_nn]; rfl
theorem owns_nil_form {w : World} {B t : Nat} {v : Value} (h : w.ownsRow B t 1 v 0 []) : ∃ A c, v = .slice A 0 c := by
  rcases h.2 with ⟨rfl, _⟩ | ⟨g, cap, _, rfl, _⟩
  · exact ⟨_, _, rfl⟩
  · exact ⟨_, _, rfl⟩
set_option maxRecDepth 20000 in
set_option maxHeartbeats 1000000 in
theorem keysAwake_any (w : World) : Calls Try.prog 9 #[] w fun e w' => e = .returned (.bool true) ∧ Below w.heap.size w w' := by
  obtain ⟨K, hK⟩ : ∃ K : ByteArray, K = ⟨#[97, 98, 99, 100, 101, 102, 103, 104, 97, 98, 99, 100, 101, 102, 103, 104, 97, 98, 99, 100, 101, 102, 103, 104, 97, 98, 99, 100, 101, 102, 103, 104]⟩ := ⟨_, rfl⟩
  have hs := strsB_one w K
  have hj := kJoin_any _ _ _ _ _ hs hs (by simp)
  rw [kJoin_one] at hj
  have hx := fun w => hex_any ⟨#[31]⟩ (by decide) w
  rw [show hHex (ByteArray.mk #[31]).data.toList = [49, 102] by decide +kernel] at hx
  have HX := Lib.hid hx; clear hx
  have HJ := Lib.hid hj; clear hj
  have HS := Lib.hid hs; clear hs
  have HB := Lib.hid ((Below.refl w.heap.size w).alloc (Nat.le_refl _) (.cells #[.string K] 9))
  go_enter Try.func9, Try.ntmps9
  go_wp2_with fail
  rw [← hK]
  have HK := Lib.hid hK
  clear hK
  refine HJ.out.mono ?_
  rintro e w1 ⟨v1, rfl, hown1, b1⟩
  have HS1 := Lib.hid (StrsB.of_owns hown1)
  have HS2 := Lib.hid (HS.out.below b1 (Nat.le_refl _))
  have HB1 := Lib.hid (below_then HB.out b1)
  clear hown1 b1
  go_wp2_with fail
  refine (same_any _ _ _ [K] [K] HS1.out HS2.out).mono ?_
  rintro e w2 ⟨rfl, nq, rfl⟩
  rw [sameB_self]
  have hj := kLess_any (w1.drewN nq) _ _ _ _ HS2.out HS2.out (by simp)
  rw [kLess_one] at hj
  have HL := Lib.hid hj; clear hj
  go_wp2_with fail
  refine HL.out.mono ?_
  rintro e w3 ⟨v3, rfl, hown3, b3⟩
  obtain ⟨A, c, rfl⟩ := owns_nil_form hown3
  have HB3 := Lib.hid (below_then (Below.drewN HB1.out nq) b3)
  clear hown3 b3
  go_wp2_with fail
  refine (HX.out _).mono ?_
  rintro e w4 ⟨rfl, b4⟩
  go_wp2
  go_ret
  exact ⟨rfl, below_then HB3.out b4⟩
theorem flat_u8 : ∀ l : List UInt8, List.flatMap EU8 l = l.map (fun b => Value.int .u8 b.toNat)
  | [] => rfl
  | b :: l => by rw [List.flatMap_cons, flat_u8 l]; rfl
theorem heap_new (w : World) (o : Obj) : (w.alloc o).heap[w.heap.size]? = some o := by
  show (w.heap.push o)[w.heap.size]? = some o
  simp
theorem hDig_lt : ∀ x < 16, ∀ y < 16, decide (hDig x < hDig y) = decide (x < y) := by decide +kernel
theorem hDig_eq : ∀ x < 16, ∀ y < 16, (hDig x == hDig y) = decide (x = y) := by decide +kernel
/-- keys as texts stand to each other as the keys do -/
theorem hex_less : ∀ l m : List UInt8, Op.bytesLess (hHex l) (hHex m) = Op.bytesLess l m
  | l, [] => by rw [hHex, Op.bytesLess.eq_1, Op.bytesLess.eq_1]
  | [], d :: m => by rw [hHex, hHex, Op.bytesLess.eq_2, Op.bytesLess.eq_2]
  | c :: l, d :: m => by
    have hc := c.toNat_lt
    have hd := d.toNat_lt
    have e1 : decide (c < d) = decide (c.toNat < d.toNat) := rfl
    have e2 : (c == d) = decide (c.toNat = d.toNat) := by
      rw [Bool.eq_iff_iff, beq_iff_eq, decide_eq_true_iff]
      exact UInt8.toNat_inj.symm
    simp only [hHex, Op.bytesLess.eq_3, hex_less l m]
    rw [hDig_lt _ (by omega) _ (by omega), hDig_lt _ (by omega) _ (by omega), hDig_eq _ (by omega) _ (by omega), hDig_eq _ (by omega) _ (by omega), e1, e2]
    cases Op.bytesLess l m
    · rw [Bool.eq_iff_iff]; simp; omega
    · rw [Bool.eq_iff_iff]; simp; omega
/-- an array of bytes that was just laid, as a string -/
theorem run_arr_str (V : World) (b : Nat) (l : List UInt8) (n : Nat) (hl : l.length = n) (hb : V.heap[b]? = some (.cells (l.map (fun c => Value.int .u8 c.toNat)).toArray 22 (0, 0))) (k : Nat) :
    (convert 23 9 (Value.slice (some ⟨b, 0, none⟩) n n)).run Try.prog (V.drewN k) = .ok (.string ⟨l.toArray⟩) (V.drewN k) := by
  refine run_bytes_str _ 23 9 5 Try.underlying23 Try.underlying5 Try.underlying9 _ _ _ _ _ hl ?_
  intro i hi
  have hb' : (V.drewN k).heap[b]? = some (.cells (l.map (fun c => Value.int .u8 c.toNat)).toArray 22 (0, 0)) := hb
  rw [Lib.cell_of_heap hb']
  simp [hi]
set_option maxRecDepth 20000 in
set_option maxHeartbeats 1000000 in
theorem keysOrder_ok (W : World) (x0 : (List UInt8)) (w0 : x0.length = 32 ∧ ∀ y ∈ x0, True) (x1 : (List UInt8)) (w1 : x1.length = 32 ∧ ∀ y ∈ x1, True) :
    Calls Try.prog 3 #[.agg ((fun xs => List.flatMap EU8 xs) x0).toArray, .agg ((fun xs => List.flatMap EU8 xs) x1).toArray] W fun e w' => e = .returned (.bool true) ∧ Below W.heap.size W w' := by
  obtain ⟨h0, _⟩ := w0
  obtain ⟨h1, _⟩ := w1
  have hx := hex_any ⟨x0.toArray⟩ (by show x0.length ≤ _; omega)
  have hy := hex_any ⟨x1.toArray⟩ (by show x1.length ≤ _; omega)
  have k1 := fun k => run_arr_str ((W.alloc (Obj.cells (List.flatMap EU8 x0).toArray 22)).alloc (Obj.cells (List.flatMap EU8 x1).toArray 22)) W.heap.size x0 32 h0 (by rw [flat_u8, flat_u8, Below.heap_alloc _ _ _ (by simp)]; exact heap_new _ _) k
  have k2 := fun k => run_arr_str ((W.alloc (Obj.cells (List.flatMap EU8 x0).toArray 22)).alloc (Obj.cells (List.flatMap EU8 x1).toArray 22)) (W.heap.size + 1) x1 32 h1 (by rw [flat_u8, flat_u8]; have := heap_new (W.alloc (Obj.cells (x0.map (fun b => Value.int .u8 b.toNat)).toArray 22)) (Obj.cells (x1.map (fun b => Value.int .u8 b.toNat)).toArray 22); simpa using this) k
  have HB : Hid (Below W.heap.size W ((W.alloc (Obj.cells (List.flatMap EU8 x0).toArray 22)).alloc (Obj.cells (List.flatMap EU8 x1).toArray 22))) := ((Below.refl _ _).alloc (Nat.le_refl _) _).alloc (by simp) _
  generalize (List.flatMap EU8 x0).toArray = ar0 at *
  generalize (List.flatMap EU8 x1).toArray = ar1 at *
  have hls : Op.bytesLess (hHex x0) (hHex x1) = Op.bytesLess x0 x1 := hex_less x0 x1
  have hln : (hHex x0).length = 64 := by rw [hHex_len]; omega
  have HX := Lib.hid hx; clear hx
  have HY := Lib.hid hy; clear hy
  go_enter Try.func3, Try.ntmps3
  go_wp2_with fail
  go_quiet (fail)
  go_wp2_with fail
  refine (HX.out _).mono ?_
  rintro e w1 ⟨rfl, b1⟩
  go_wp2_with fail
  refine (HY.out _).mono ?_
  rintro e w2 ⟨rfl, b2⟩
  go_wp2_with fail
  refine (HX.out _).mono ?_
  rintro e w3 ⟨rfl, b3⟩
  go_wp2_with fail
  refine (keysAwake_any _).mono ?_
  rintro e w4 ⟨rfl, b4⟩
  go_wp2_with fail
  go_ret
  exact ⟨rfl, below_then (below_then (below_then (below_then (Below.drewN HB.out _) b1) b2) b3) b4⟩
theorem unhex_cases (s : List UInt8) : (∃ l, unhex s = (l, 0) ∧ hHex l = s) ∨ unhex s = ([], 2) := by
  unfold unhex
  split
  · exact .inr rfl
  · cases h : hUn s with
    | none => exact .inr rfl
    | some l => exact .inl ⟨l, rfl, hex_hUn s l h⟩
theorem unhex_hex (k : List UInt8) : unhex (hHex k) = if k.length = 32 then (k, 0) else ([], 2) := by
  unfold unhex
  rw [hHex_len]
  by_cases h : k.length = 32
  · rw [if_neg (by omega), if_pos h, hUn_hex]
  · rw [if_pos (by omega), if_neg h]
theorem mk_data (t : ByteArray) : (⟨t.data.toList.toArray⟩ : ByteArray) = t := by apply ByteArray.ext; simp
set_option maxHeartbeats 2000000 in
theorem keysTexts_ok (W : World) (x0 : ByteArray) (w0 : x0.size ≤ 140737488351232) (x1 : ByteArray) (w1 : x1.size ≤ 140737488351232) :
    Calls Try.prog 4 #[.string x0, .string x1] W fun e w' => e = .returned (.bool true) ∧ Below W.heap.size W w' := by
  by_cases c0 : 200 < x0.size
  · go_enter Try.func4, Try.ntmps4
    go_wp2_with fail
    refine (keysAwake_any _).mono ?_
    rintro e w1 ⟨rfl, b1⟩
    go_wp2
    go_ret
    exact ⟨rfl, b1⟩
  by_cases c1 : 300 < x1.size
  · go_enter Try.func4, Try.ntmps4
    go_wp2_with fail
    refine (keysAwake_any _).mono ?_
    rintro e w1 ⟨rfl, b1⟩
    go_wp2
    go_ret
    exact ⟨rfl, b1⟩
  have a1 := fun w => unhex_any x1 (by omega) w
  have a2 := fun w => refUnhex_any x1 (by omega) w
  have a3 := fun w => hex_any x0 (by omega) w
  have a4 := fun w => refHex_any x0 (by omega) w
  have a5 := fun w => unhex_any ⟨(hHex x0.data.toList).toArray⟩ (by show (hHex x0.data.toList).length ≤ _; rw [hHex_len]; simp; omega) w
  rw [show (⟨(hHex x0.data.toList).toArray⟩ : ByteArray).data.toList = hHex x0.data.toList from rfl, unhex_hex] at a5
  have hl0 : x0.data.toList.length = x0.size := by simp
  rw [hl0] at a5
  have A3 := Lib.hid a3; clear a3
  have A4 := Lib.hid a4; clear a4
  have a6 : ∀ l, unhex x1.data.toList = (l, 0) → hHex l = x1.data.toList → ∀ w, Calls Try.prog 8 #[.string ⟨l.toArray⟩] w fun e w' => e = .returned (.string x1) ∧ Below w.heap.size w w' := by
    intro l _ h w
    have hlen : 2 * l.length = x1.size := by have := congrArg List.length h; rw [hHex_len] at this; simpa using this
    have := hex_any ⟨l.toArray⟩ (by show l.length ≤ _; omega) w
    rw [show (⟨l.toArray⟩ : ByteArray).data.toList = l from rfl, h, mk_data] at this
    exact this
  rcases unhex_cases x1.data.toList with ⟨l, hu, hh⟩ | hu
  · have a6 := a6 l hu hh
    rw [hu] at a1 a2
    dsimp only at a1 a2
    have A6 := Lib.hid a6
    have A1 := Lib.hid a1; clear a1
    have A2 := Lib.hid a2; clear a2
    by_cases hk : x0.size = 32
    · rw [if_pos hk] at a5
      dsimp only at a5
      rw [mk_data] at a5
      have A5 := Lib.hid a5; clear a5
      have hz : ((x0.size : Int) != 32) = false := by rw [hk]; rfl
      have HK := Lib.hid hk
      clear hk hl0 hu hh a6
      go_enter Try.func4, Try.ntmps4
      go_wp2_with fail
      refine (A1.out _).mono ?_
      rintro e w1 ⟨rfl, b1⟩
      go_wp2_with fail
      refine (A2.out _).mono ?_
      rintro e w2 ⟨rfl, b2⟩
      go_wp2_with fail
      refine (A3.out _).mono ?_
      rintro e w3 ⟨rfl, b3⟩
      go_wp2_with fail
      refine (A4.out _).mono ?_
      rintro e w4 ⟨rfl, b4⟩
      go_wp2_with fail
      refine (A6.out _).mono ?_
      rintro e w5 ⟨rfl, b5⟩
      go_wp2_with fail
      refine (A3.out _).mono ?_
      rintro e w6 ⟨rfl, b6⟩
      go_wp2_with fail
      refine (A5.out _).mono ?_
      rintro e w7 ⟨rfl, b7⟩
      go_wp2_with fail
      refine (keysAwake_any _).mono ?_
      rintro e w8 ⟨rfl, b8⟩
      go_wp2
      go_ret
      exact ⟨rfl, below_then (below_then (below_then (below_then (below_then (below_then (below_then b1 b2) b3) b4) b5) b6) b7) b8⟩
    · rw [if_neg hk] at a5
      dsimp only at a5
      have A5 := Lib.hid a5; clear a5
      have hz : ((x0.size : Int) != 32) = true := by rw [bne_iff_ne]; omega
      clear hk hl0 hu hh a6
      go_enter Try.func4, Try.ntmps4
      go_wp2_with fail
      refine (A1.out _).mono ?_
      rintro e w1 ⟨rfl, b1⟩
      go_wp2_with fail
      refine (A2.out _).mono ?_
      rintro e w2 ⟨rfl, b2⟩
      go_wp2_with fail
      refine (A3.out _).mono ?_
      rintro e w3 ⟨rfl, b3⟩
      go_wp2_with fail
      refine (A4.out _).mono ?_
      rintro e w4 ⟨rfl, b4⟩
      go_wp2_with fail
      refine (A6.out _).mono ?_
      rintro e w5 ⟨rfl, b5⟩
      go_wp2_with fail
      refine (A3.out _).mono ?_
      rintro e w6 ⟨rfl, b6⟩
      go_wp2_with fail
      refine (A5.out _).mono ?_
      rintro e w7 ⟨rfl, b7⟩
      go_wp2_with fail
      refine (keysAwake_any _).mono ?_
      rintro e w8 ⟨rfl, b8⟩
      go_wp2
      go_ret
      exact ⟨rfl, below_then (below_then (below_then (below_then (below_then (below_then (below_then b1 b2) b3) b4) b5) b6) b7) b8⟩
  · clear a6
    rw [hu] at a1 a2
    dsimp only at a1 a2
    have A1 := Lib.hid a1; clear a1
    have A2 := Lib.hid a2; clear a2
    by_cases hk : x0.size = 32
    · rw [if_pos hk] at a5
      dsimp only at a5
      rw [mk_data] at a5
      have A5 := Lib.hid a5; clear a5
      have hz : ((x0.size : Int) != 32) = false := by rw [hk]; rfl
      have HK := Lib.hid hk
      clear hk hl0 hu
      go_enter Try.func4, Try.ntmps4
      go_wp2_with fail
      refine (A1.out _).mono ?_
      rintro e w1 ⟨rfl, b1⟩
      go_wp2_with fail
      refine (A2.out _).mono ?_
      rintro e w2 ⟨rfl, b2⟩
      go_wp2_with fail
      refine (A3.out _).mono ?_
      rintro e w3 ⟨rfl, b3⟩
      go_wp2_with fail
      refine (A4.out _).mono ?_
      rintro e w4 ⟨rfl, b4⟩
      go_wp2_with fail
      refine (A3.out _).mono ?_
      rintro e w6 ⟨rfl, b6⟩
      go_wp2_with fail
      refine (A5.out _).mono ?_
      rintro e w7 ⟨rfl, b7⟩
      go_wp2_with fail
      refine (keysAwake_any _).mono ?_
      rintro e w8 ⟨rfl, b8⟩
      go_wp2
      go_ret
      exact ⟨rfl, below_then (below_then (below_then (below_then (below_then (below_then b1 b2) b3) b4) b6) b7) b8⟩
    · rw [if_neg hk] at a5
      dsimp only at a5
      have A5 := Lib.hid a5; clear a5
      have hz : ((x0.size : Int) != 32) = true := by rw [bne_iff_ne]; omega
      clear hk hl0 hu
      go_enter Try.func4, Try.ntmps4
      go_wp2_with fail
      refine (A1.out _).mono ?_
      rintro e w1 ⟨rfl, b1⟩
      go_wp2_with fail
      refine (A2.out _).mono ?_
      rintro e w2 ⟨rfl, b2⟩
      go_wp2_with fail
      refine (A3.out _).mono ?_
      rintro e w3 ⟨rfl, b3⟩
      go_wp2_with fail
      refine (A4.out _).mono ?_
      rintro e w4 ⟨rfl, b4⟩
      go_wp2_with fail
      refine (A3.out _).mono ?_
      rintro e w6 ⟨rfl, b6⟩
      go_wp2_with fail
      refine (A5.out _).mono ?_
      rintro e w7 ⟨rfl, b7⟩
      go_wp2_with fail
      refine (keysAwake_any _).mono ?_
      rintro e w8 ⟨rfl, b8⟩
      go_wp2
      go_ret
      exact ⟨rfl, below_then (below_then (below_then (below_then (below_then (below_then b1 b2) b3) b4) b6) b7) b8⟩
end Go.Proofs.Ytjbnkheghafgoaa
