/- siloref35.square: walk. -/
import Derived.Test.YtdgnhnhmcobfkaaGfInv
import Derived.Deep.RegionHeld3
namespace Go.Proofs.Ytdgnhnhmcobfkaa
open Go.RowKit
set_option linter.unusedVariables false
set_option linter.unusedSimpArgs false
theorem sqOk_ref (m : List ByteArray) : sqOk m = (evenR m && decide (m.length ≤ 16) && decide (firstN m = m.length)) := by
  unfold sqOk evenR widthN evenB
  by_cases h0 : m.length = 0
  · simp [h0]
  · cases he : evenL m
    · simp [h0]
      exact fun e => h0 e.symm
    · by_cases h16 : m.length ≤ 16
      · have d1 : decide (m.length ≤ 16) = true := by simpa using h16
        rw [d1, Bool.eq_iff_iff]
        simp only [h0, Bool.true_and, Bool.and_true, false_or, Bool.and_eq_true, decide_eq_true_iff]
        rw [if_neg (by simp)]
        constructor
        · rintro ⟨a, b⟩; exact ⟨by omega, b⟩
        · rintro ⟨a, b⟩; exact ⟨by simpa using h0, b⟩
      · have d1 : decide (m.length ≤ 16) = false := by simpa using h16
        rw [d1]; simp [h0]
        exact fun e => h0 e.symm
theorem wp_make_bytes {w : World} {o : Oper} {a : Act} {K : Act → World → Prop} {Q : Exit → Act → World → Prop} (l c : Operand) (t : TypeId) (hop : o.op = Op.makeSlice t l c)
    (h1 : Try.prog.underlying t = some (.slice 5)) (n : Nat) (hl : a.eval l = .int .i64 (n : Int)) (hc : a.eval c = .int .i64 (n : Int)) (hn : n ≤ 1000000000)
    (h : ∀ w', FRow w' w.heap.size n (fun _ => 0) → Below w.heap.size w w' → K (a.put o.dst (.slice (some ⟨w.heap.size, 0, none⟩) n n)) w') : o.wp Try.prog a w K Q := by
  obtain ⟨i0, hi0, hz0, hz1, hz2⟩ := info_parts byteInfo
  obtain ⟨w', hrun, r1, r2⟩ := run_make_full (P := Try.prog) w w.heap.size t 5 i0 (.int .u8 0) 1 h1 hi0 hz0 hz1 .i64 .i64 n (by rw [hz2]; omega) (by unfold maxLen; omega) (Nat.le_refl _)
  unfold Oper.wp
  simp [execOp, hop, hl, hc, hrun, Result.andThen]
  exact h w' (FRow.made r1) ((Below.refl _ _).grown r2 (Nat.le_refl _) (fun k e => by cases e))
theorem one_ready {P : Program} {md : Region.Mode} {ops : Array Oper} {Q : Exit → Act → World → Prop} {S : World → Prop} {fuel : Nat} {listed : Array Bool} {a : Act} {w : World} (i : Nat) (o : Oper) (hr : Region.ready md ops listed = [i]) (ho : ops[i]? = some o)
    (hw : Region.wanted o (yielded ops a.tmps) = true) (h : ∀ K' : Act → World → Prop, Shut (∀ a w, S w → (S w → wpAnyH P md ops Q S fuel (listed.setIfInBounds i true) a w) → K' a w) → Oper.wp P o a w K' Q) : wpAnyH P md ops Q S (fuel + 1) listed a w :=
  wpAnyH_ready hr (by simp) (AllReadyH.cons ho (fun K hK => by rw [if_pos hw]; exact h K hK) AllReadyH.nil)
/-- the one operation that is ready makes n bytes -/
theorem one_make {md : Region.Mode} {ops : Array Oper} {Q : Exit → Act → World → Prop} {S : World → Prop} {fuel : Nat} {listed : Array Bool} {a : Act} {w : World} (i : Nat) (o : Oper) (hr : Region.ready md ops listed = [i]) (ho : ops[i]? = some o)
    (hw : Region.wanted o (yielded ops a.tmps) = true) (l c : Operand) (t : TypeId) (hop : o.op = Op.makeSlice t l c) (h1 : Try.prog.underlying t = some (.slice 5)) (n : Nat) (hl : a.eval l = .int .i64 (n : Int)) (hc : a.eval c = .int .i64 (n : Int)) (hn : n ≤ 1000000000)
    (h : ∀ w', FRow w' w.heap.size n (fun _ => 0) → Below w.heap.size w w' → S w' ∧ (S w' → wpAnyH Try.prog md ops Q S fuel (listed.setIfInBounds i true) (a.put o.dst (.slice (some ⟨w.heap.size, 0, none⟩) n n)) w')) : wpAnyH Try.prog md ops Q S (fuel + 1) listed a w :=
  one_ready i o hr ho hw fun K hK => wp_make_bytes l c t hop h1 n hl hc hn fun w' q1 q2 => hK.out _ _ (h w' q1 q2).1 (h w' q1 q2).2
/-- the one operation that is ready has a value -/
theorem one_val {P : Program} {md : Region.Mode} {ops : Array Oper} {Q : Exit → Act → World → Prop} {S : World → Prop} {fuel : Nat} {listed : Array Bool} {a : Act} {w : World} (i : Nat) (o : Oper) (hr : Region.ready md ops listed = [i]) (ho : ops[i]? = some o)
    (hw : Region.wanted o (yielded ops a.tmps) = true) (v : Value) (w' : World) (hrun : (execOp a.eval o).run P w = .ok (.value v) w') (hS : S w')
    (h : wpAnyH P md ops Q S fuel (listed.setIfInBounds i true) (a.put o.dst v) w') : wpAnyH P md ops Q S (fuel + 1) listed a w :=
  one_ready i o hr ho hw fun K hK => by
    unfold Oper.wp
    rw [hrun]
    exact hK.out _ _ hS (fun _ => h)
theorem exec_conv {P : Program} {a : Act} {o : Oper} {s d : TypeId} {x : Operand} {w w' : World} {v vx : Value} (hop : o.op = Op.convert s d x) (h : (convert s d vx).run P w = .ok v w') (hx : a.eval x = vx) : (execOp a.eval o).run P w = .ok (.value v) w' := by
  unfold execOp
  simp [hop, hx, h, Result.andThen]
theorem rw_append (x z : ByteArray) (k : Nat) : rw' (x ++ z) k = if k < x.size then rw' x k else rw' z (k - x.size) := by
  unfold rw'
  rw [toList_append, List.getD_eq_getElem?_getD, List.getElem?_append]
  have : x.data.toList.length = x.size := by simp
  rw [this]
  split
  · rw [← List.getD_eq_getElem?_getD]
  · rw [← List.getD_eq_getElem?_getD]
def BlwS (W w : World) : Prop := Below W.heap.size W w
set_option maxRecDepth 20000 in
set_option maxHeartbeats 4000000 in
theorem square_ok (w : World) (va : Value) (m : List ByteArray) (ha : StrsB w va m) (hsq : sqOk m = true) :
    Calls Try.prog 48 #[va] w fun e w' => ∃ o cap G C, e = .returned (.tuple #[.slice (some ⟨o, 0, none⟩) m.length cap, .bool true]) ∧ m.length ≤ cap ∧ cap ≤ maxLen ∧ Sol w' w.heap.size o m.length (2 * m.length) G C (beg m.length (mt m)) ∧ Below w.heap.size w w' := by
  obtain ⟨h0, h16, hsqr⟩ := sqOk_parts hsq
  rw [sqOk_ref] at hsq
  simp only [Bool.and_eq_true, decide_eq_true_iff] at hsq
  have HEV := Lib.hid (reven_any w va m ha)
  rw [hsq.1.1] at HEV
  clear hsq
  have HSQ := Lib.hid hsqr; clear hsqr
  have HMT : Hid (∀ i (h : i < m.length) k, mt m i k = rw' m[i] k) := fun i h k => mt_get h k
  obtain ⟨Am, cm, rfl, h1, h2⟩ := ha.len
  obtain ⟨bm, om, rfl, hbm, hcm⟩ := ha.cells h0
  have HCM := Lib.hid hcm
  have e0 : w.cell? ⟨bm, om, none⟩ = some (.string m[0]) := hcm 0 h0
  have z0 : m[0].size = m.length := HSQ.out 0 h0
  generalize m[0] = x0 at *
  clear hcm ha h1 h2
  obtain ⟨n, hn⟩ : ∃ n, m.length = n := ⟨_, rfl⟩
  have HN := Lib.hid hn
  rw [hn] at h0 h16 z0 HEV ⊢
  have hnI : n ≤ 9223372036854775807 := by omega
  have d16 : decide ((16 : Int) < (n : Int)) = false := by rw [decide_eq_false_iff_not]; omega
  have dnn : ((n : Int) != (n : Int)) = false := by rw [bne_eq_false_iff_eq]
  clear hn
  go_enter Try.func48, Try.ntmps48
  go_wp2_with fail
  refine HEV.out.mono ?_
  rintro e w' ⟨rfl, n1, rfl⟩
  go_wp2_with fail
  clear HEV e0 z0 d16 dnn
  go_loopw [4, 5] (fun v i wr => ∃ (j : Nat) (G C : Nat → Nat), j ≤ n ∧ i = .int .i64 j ∧ Hid (Mk wr w.heap.size j (2 * n) v G C (beg n (mt m))) ∧ Hid (Below w.heap.size w wr)) (fun _ i _ => n - (intOf i).toNat)
  case atStart => exact ⟨0, fun _ => 0, fun _ => 0, Nat.zero_le _, rfl, mk_nil _ _ _ _ _ _, Below.drewN (Below.refl _ _) _⟩
  case round =>
    obtain ⟨j, G, C, hj, rfl, HK, HB⟩ := hrel
    by_cases hlt : j < n
    · have hjm : j < m.length := by rw [HN.out]; exact hlt
      have hlt' : (j : Int) < (n : Int) := by omega
      have e1 : wr.drew.cell? ⟨bm, om + j, none⟩ = some (.string m[j]) := (HB.out.cell (p := ⟨bm, om + j, none⟩) hbm).trans (HCM.out j hjm)
      have zx : m[j].size = n := (HSQ.out j hjm).trans HN.out
      have HX : Hid (∀ k, mt m j k = rw' m[j] k) := fun k => HMT.out j hjm k
      generalize m[j] = x at *
      have hb1 : bm < wr.drew.heap.size := Nat.lt_of_lt_of_le hbm HB.out.size
      have HKd : Hid (Mk wr.drew w.heap.size j (2 * n) u4 G C (beg n (mt m))) := HK.out.below (Below.refl _ _).drew
      have HBd : Hid (Below w.heap.size w wr.drew) := HB.out.drew
      clear hjm HK HB
      go_wp2_with fail
      refine wp_region_noPanic ?_
      refine wp_region_held_drew (S := BlwS wr.drew) (by kernel_rfl) (show BlwS wr.drew wr.drew from Below.refl _ _) (fun hHeld => ?_)
      obtain ⟨wo, hwo⟩ : ∃ wo, wo = wr.drew := ⟨_, rfl⟩
      rw [← hwo] at e1 hb1 HKd HBd hHeld ⊢
      have HWO := Lib.hid hwo; clear hwo
      refine' wpAnyH_take (i := 0) (v := ?v1) rfl (by kernel_rfl) (by kernel_rfl) (by kernel_rfl) (fun _ _ _ h => h) (Or.inl ⟨by kernel_rfl, ?hy1⟩) (by assumption) ?rest1
      case hy1 => (intro w hSw; (try dsimp only at hSw); go_simp; try with_reducible rfl)
      try simp only [Act.put, List.setIfInBounds_toArray, List.set_cons_zero, List.set_cons_succ]
      refine' wpAnyH_take (i := 1) (v := ?v2) rfl (by kernel_rfl) (by kernel_rfl) (by kernel_rfl) (fun _ _ _ h => h) (Or.inl ⟨by kernel_rfl, ?hy2⟩) (by assumption) ?rest2
      case hy2 => (intro w hSw; (try dsimp only at hSw); go_simp; try with_reducible rfl)
      try simp only [Act.put, List.setIfInBounds_toArray, List.set_cons_zero, List.set_cons_succ]
      refine' wpAnyH_take (i := 2) (v := ?v3) rfl (by kernel_rfl) (by kernel_rfl) (by kernel_rfl) (fun _ _ _ h => h) (Or.inl ⟨by kernel_rfl, ?hy3⟩) (by assumption) ?rest3
      case hy3 => (intro w hSw; (try dsimp only at hSw); go_simp; try with_reducible rfl)
      try simp only [Act.put, List.setIfInBounds_toArray, List.set_cons_zero, List.set_cons_succ]
      refine wpAnyH_take (i := 3) (v := .string x) rfl (by kernel_rfl) (by kernel_rfl) (by kernel_rfl) (fun _ _ _ h => h) (Or.inl ⟨by kernel_rfl, ?_⟩) hHeld ?_
      · intro w hSw
        have hh := (Below.cell (p := ⟨bm, om + j, none⟩) hSw hb1).trans e1
        go_simp
      try simp only [Act.put, List.setIfInBounds_toArray, List.set_cons_zero, List.set_cons_succ]
      refine' wpAnyH_take (i := 4) (v := ?v4) rfl (by kernel_rfl) (by kernel_rfl) (by kernel_rfl) (fun _ _ _ h => h) (Or.inl ⟨by kernel_rfl, ?hy4⟩) (by assumption) ?rest4
      case hy4 => (intro w hSw; (try dsimp only at hSw); go_simp; try with_reducible rfl)
      try simp only [Act.put, List.setIfInBounds_toArray, List.set_cons_zero, List.set_cons_succ]
      refine wpAnyH_take (i := 5) (v := .int .i64 n) rfl (by kernel_rfl) (by kernel_rfl) (by kernel_rfl) (fun _ _ _ h => h) (Or.inl ⟨by kernel_rfl, ?_⟩) hHeld ?_
      · intro w hSw
        go_simp
        first | done | ((try rw [Int.tdiv_eq_ediv_of_nonneg (by omega)]); (try rw [Int.tmod_eq_emod_of_nonneg (by omega)]); (try rw [IntKind.wrap_i64]); (try omega))
      try simp only [Act.put, List.setIfInBounds_toArray, List.set_cons_zero, List.set_cons_succ]
      refine one_make 6 { dst := some 36, op := Op.makeSlice 63 (.tmp 35) (.tmp 35), type := 63, pos := "ref.go:99", after := #[{ on := 5, ground := Ground.data }, { on := 5, ground := Ground.data }], guard := none } (by kernel_rfl) rfl (by kernel_rfl) _ _ 63 rfl Try.underlying63 n (by go_simp) (by go_simp) (by omega) (fun w1 hF hB1 => ⟨hB1, fun hHeld => ?_⟩)
      try simp only [Act.put, List.setIfInBounds_toArray, List.set_cons_zero, List.set_cons_succ]
      have hcs := conv_str hF 0 n n (by omega)
      obtain ⟨z, hz⟩ : ∃ z, z = bytesF n (fun k => (fun _ => (0 : UInt8)) (0 + k)) := ⟨_, rfl⟩
      rw [← hz] at hcs
      have hzs : z.size = n := by rw [hz]; exact bytesF_size _ _
      have HZ : Hid (∀ k, k < n → rw' z k = 0) := fun k hk => by rw [hz, rw_bytesF _ hk]
      clear hz
      have hxz : (x ++ z).size = n + n := by rw [ByteArray.size_append, zx, hzs]
      have hj0 : n + j < n + n := by omega
      have hnj : ((n : Int) + (j : Int)).toNat = n + j := by omega
      have hs1 := hB1.size
      have hs0 := HBd.out.size
      obtain ⟨W2, cap, hcv, hr2, hB2⟩ := RowB.made w1 (x ++ z) (by omega)
      have hxl : (x ++ z).data.toList.length = n + n := by rw [← hxz]; simp
      have hb4 : n + n ≤ cap ∧ cap ≤ maxLen := ⟨by have := hr2.len; rw [hxl] at this; exact this, hr2.max⟩
      have hF2 : FRow W2 w1.heap.size (n + n) (rw' (x ++ z)) := by have := hr2.frow; rw [hxl] at this; exact this
      rw [hxz] at hcv
      clear hr2 hxl
      have e4 : W2.cell? ⟨w1.heap.size, n + j, none⟩ = some (.int .u8 (rw' (x ++ z) (n + j)).toNat) := hF2.cell _ hj0
      have f4 : W2.frozen? ⟨w1.heap.size, n + j, none⟩ = false := hF2.free _ hj0
      have hF3 := hF2.set (n + j) 1 hj0
      have HF4 : Hid (FRow (W2.setCell ⟨w1.heap.size, n + j, none⟩ (.int .u8 1)) w1.heap.size (2 * n) (beg n (mt m) j)) := by
        have : FRow (W2.setCell ⟨w1.heap.size, n + j, none⟩ (.int .u8 1)) w1.heap.size (n + n) (beg n (mt m) j) := hF3.congr fun k hk => by
          unfold updB beg
          by_cases e : k < n
          · rw [if_neg (by omega), if_pos e, rw_append, if_pos (by omega), ← HX.out]
          · rw [if_neg e]
            unfold dI
            by_cases e2 : k = n + j
            · rw [if_pos e2, if_pos (by omega)]
            · rw [if_neg e2, if_neg (by omega), rw_append, if_neg (by omega), zx, HZ.out _ (by omega)]
        rwa [show n + n = 2 * n by omega] at this
      have HB4 : Hid (Below wo.heap.size wo (W2.setCell ⟨w1.heap.size, n + j, none⟩ (.int .u8 1))) := (hB1.trans (hB2.mono hs1)).setCell hs1 _
      generalize rw' (x ++ z) (n + j) = q4 at *
      have hHeld2 : BlwS wo W2 := hB1.trans (hB2.mono hs1)
      clear hF hB1 hF2 hB2 hF3 HZ
      obtain ⟨w3, hw3⟩ : ∃ w3, w3 = W2.setCell ⟨w1.heap.size, n + j, none⟩ (.int .u8 1) := ⟨_, rfl⟩
      rw [← hw3] at HF4 HB4
      have hw3s : w3.heap.size = W2.heap.size := by rw [hw3, World.size_setCell]
      have hgB : wo.heap.size ≤ w1.heap.size := hs1
      have HK4 : Hid (Mk w3 w.heap.size j (2 * n) u4 G C (beg n (mt m))) := HKd.out.below HB4.out
      have hsl : (slL G C (2 * n) j).length + 1 ≤ 1000000000 := by rw [slL_len]; omega
      have hown : w3.ownsRow w.heap.size 63 1 u4 (slL G C (2 * n) j).length (slL G C (2 * n) j) := by rw [slL_len]; exact HK4.out.own
      rw [hw3] at hown
      have hgne : Hid (∀ i, i < j → G i ≠ w1.heap.size) := fun i hi e => by
        have := (HKd.out.row i hi).lt
        omega
      have hcap2 : Hid (2 * n ≤ cap ∧ cap ≤ maxLen) := ⟨by omega, hb4.2⟩
      have hlt3 := HF4.out.lt
      have hn2 : n + n = 2 * n := by omega
      rw [hn2] at hcv
      have hcell : ((W2.setCell ⟨w1.heap.size, n + j, none⟩ (.int .u8 1)).alloc (.cells #[slV w1.heap.size (2 * n) cap] 63)).cell? ⟨W2.heap.size, 0, none⟩ = some (slV w1.heap.size (2 * n) cap) := by
        have h := heap_alloc_new (W2.setCell ⟨w1.heap.size, n + j, none⟩ (.int .u8 1)) (.cells #[slV w1.heap.size (2 * n) cap] 63)
        rw [World.size_setCell] at h
        exact (cell_of_row _ _ 0 _ _ _ h).trans rfl
      clear hb4
      refine one_val 7 { dst := some 37, op := Op.convert 63 9 (.tmp 36), type := 9, pos := "ref.go:99", after := #[{ on := 6, ground := Ground.data }], guard := none } (by kernel_rfl) rfl (by kernel_rfl) (.string z) w1 (exec_conv rfl hcs (by go_simp)) hHeld ?_
      try simp only [Act.put, List.setIfInBounds_toArray, List.set_cons_zero, List.set_cons_succ]
      refine wpAnyH_take (i := 8) (v := .string (x ++ z)) rfl (by kernel_rfl) (by kernel_rfl) (by kernel_rfl) (fun _ _ _ h => h) (Or.inl ⟨by kernel_rfl, ?_⟩) hHeld ?_
      · intro w hSw
        go_simp
        first | done | omega | ((try simp only [ByteArray.size_append]); omega)
      try simp only [Act.put, List.setIfInBounds_toArray, List.set_cons_zero, List.set_cons_succ]
      refine one_val 9 { dst := some 39, op := Op.convert 9 63 (.tmp 38), type := 63, pos := "ref.go:99", after := #[{ on := 8, ground := Ground.data }], guard := none } (by kernel_rfl) rfl (by kernel_rfl) _ W2 (exec_conv rfl hcv (by go_simp)) hHeld2 ?_
      try simp only [Act.put, List.setIfInBounds_toArray, List.set_cons_zero, List.set_cons_succ]
      have hHeld := hHeld2
      refine wpAnyH_take (i := 10) (v := .slice (some ⟨w1.heap.size, 0, none⟩) (2 * n) cap) rfl (by kernel_rfl) (by kernel_rfl) (by kernel_rfl) (fun _ _ _ h => h) (Or.inl ⟨by kernel_rfl, ?_⟩) hHeld ?_
      · intro w hSw
        go_simp
      refine wpAnyH_done (by kernel_rfl) ?_ _
      refine NoPanic.normal ?_
      go_wp2_with (at_builtin; refine wpList_push_sl rfl _ _ 65 rfl Try.underlying65 w.heap.size u4 (slL G C (2 * n) j) rfl (hown.alloc _) ⟨W2.heap.size, 0, none⟩ _ (slV w1.heap.size (2 * n) cap) rfl rfl hcell hsl (by simp; omega) ?_)
      intro v' w5 hown5 hg5
      rw [← hw3] at hg5
      have HK5 : Hid (Mk w5 w.heap.size (j + 1) (2 * n) v' (fun i => if i = j then w1.heap.size else G i) (fun i => if i = j then cap else C i) (beg n (mt m))) :=
        ((HK4.out.below ((Below.refl _ _).alloc (Nat.le_refl _) _)).push (by omega) w1.heap.size cap (beg n (mt m) j) (HF4.out.below ((Below.refl _ _).alloc (Nat.le_refl _) _)) (by omega) hcap2.out hgne.out (by simpa using hown5) hg5).congr fun i hi k hk => by
          by_cases e : i = j
          · rw [if_pos e, e]
          · rw [if_neg e]
      have HB5 : Hid (Below w.heap.size w w5) := ((HBd.out.trans (HB4.out.mono hs0)).alloc (by omega) _).grown hg5 (by simp; omega) (fun k hk => (HKd.out.own.lt k hk).1)
      clear hown5 hg5 hown
      go_wp2_with fail
      go_roundw
      case rel => exact ⟨j + 1, _, _, by omega, by go_num, HK5, HB5⟩
      case measure => simp [intOf]; omega
    · obtain rfl : j = n := by omega
      obtain ⟨o, cap, hv, hc1, hc2, hS⟩ := HK.out.sol h0 (by omega)
      subst hv
      go_wp2_with fail
      go_ret2
      exact ⟨o, cap, G, C, rfl, hc1, hc2, hS, HB.out⟩
set_option maxRecDepth 20000 in
set_option maxHeartbeats 2000000 in
theorem square_no (w : World) (va : Value) (m : List ByteArray) (ha : StrsB w va m) (hsq : sqOk m = false) :
    Calls Try.prog 48 #[va] w fun e w' => e = .returned (.tuple #[.slice none 0 0, .bool false]) ∧ ∃ n, w' = w.drewN n := by
  rw [sqOk_ref] at hsq
  have HEV := Lib.hid (reven_any w va m ha)
  cases hem : evenR m with
  | false =>
    rw [hem] at HEV
    clear hsq hem ha
    go_enter Try.func48, Try.ntmps48
    go_wp2_with fail
    refine HEV.out.mono ?_
    rintro e w' ⟨rfl, n1, rfl⟩
    go_wp2_with fail
    go_ret2
    exact ⟨rfl, n1, rfl⟩
  | true =>
    rw [hem] at HEV hsq
    have hem' : evenL m = true ∧ 0 < m.length := by unfold evenR at hem; rwa [Bool.and_eq_true, decide_eq_true_iff] at hem
    have hm0 := hem'.2
    obtain ⟨Am, cm, rfl, h1, h2⟩ := ha.len
    obtain ⟨bm, om, rfl, hbm, HCM⟩ := ha.cells hm0
    have z0 : m[0].size = firstN m := evenL_get hem'.1 0 hm0
    have e0 : w.cell? ⟨bm, om, none⟩ = some (.string m[0]) := HCM 0 hm0
    generalize m[0] = x0 at *
    clear HCM hem hem' ha h1 h2
    by_cases h16 : m.length ≤ 16
    · have d1 : decide ((16 : Int) < (m.length : Int)) = false := by rw [decide_eq_false_iff_not]; omega
      have h5 : firstN m ≠ m.length := by
        intro e
        rw [decide_eq_true h16, decide_eq_true e] at hsq
        cases hsq
      have d3 : ((x0.size : Int) != (m.length : Int)) = true := by rw [bne_iff_ne]; omega
      clear hsq h5 z0 h16
      go_enter Try.func48, Try.ntmps48
      go_wp2_with fail
      refine HEV.out.mono ?_
      rintro e w' ⟨rfl, n1, rfl⟩
      go_wp2_with fail
      go_ret2
      exact ⟨rfl, n1, rfl⟩
    · have d1 : decide ((16 : Int) < (m.length : Int)) = true := by rw [decide_eq_true_iff]; omega
      clear hsq z0 h16
      go_enter Try.func48, Try.ntmps48
      go_wp2_with fail
      refine HEV.out.mono ?_
      rintro e w' ⟨rfl, n1, rfl⟩
      go_wp2_with fail
      go_ret2
      exact ⟨rfl, n1, rfl⟩
end Go.Proofs.Ytdgnhnhmcobfkaa
