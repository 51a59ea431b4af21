/- Texts of this claim's author, packed: ScrText. Conditions: none. -/
import Derived.Test.YtfpofcfoeajkiaaGreatQR23
import Derived.Test.YtfpofcfoeajkiaaGreatQR24
/- scrub.whole and scrub.Text: walks (printed by gen-scr-text.py). -/
namespace Go.Proofs.YtfpofcfoeajkiaaGreat
open Go.RowKit
set_option linter.unusedVariables false
set_option linter.unusedSimpArgs false
theorem wp_push_bool {w : World} {o : Oper} {a : Act} {K : Act → World → Prop} {Q : Exit → Act → World → Prop} (s x : Operand) (t : TypeId)
    (ho : o.op = .call { callee := .builtin .append, args := #[s, x], argTypes := #[t, t] }) (ht : Tryz.prog.underlying t = some (.slice 4))
    (base : Nat) (v : Value) (xs : List Bool) (hs : a.eval s = v) (hown : w.ownsRow base 4 1 v xs.length (xs.map .bool))
    (ad : Addr) (c : Nat) (y : Bool) (hx : a.eval x = .slice (some ad) 1 c) (hc : w.cell? ad = some (.bool y)) (hle : xs.length + 1 ≤ 1000000000) (hbase : base ≤ w.heap.size)
    (h : ∀ v' w', w'.ownsRow base 4 1 v' (xs ++ [y]).length ((xs ++ [y]).map .bool) → w.grownBy w' v.ownBlock → K (a.put o.dst v') w') : o.wp Tryz.prog a w K Q := by
  obtain ⟨i0, hi, hz0, hz1, hz2⟩ := info_parts boolInfo
  refine wp_append_own w s x t ho base 4 i0 (.bool false) 1 1 ht hi hz0 hz1 hz2 rfl (by decide) v _ _ hs hown ad 1 c [.bool y] hx rfl ?_ ?_ (by unfold maxLen; omega) (by omega) hbase ?_
  · intro j u' hj
    match j, hj with
    | 0, hj =>
      simp at hj; subst hj
      rw [← hc]; congr 1
  · intro u' hu'
    simp at hu'; subst hu'; rfl
  · intro v' w' h1 h2 _
    exact h v' w' (by simpa using h1) h2
theorem BoolB.of_owns {w : World} {v : Value} {l : List Bool} {B : Nat} (h : w.ownsRow B 4 1 v l.length (l.map .bool)) : BoolB w v l := by
  rcases h.2 with ⟨hv, h0⟩ | ⟨g, cap, cur, hv, hb, hg, hn, hm, hc, ht⟩
  · exact ⟨none, 0, by rw [hv, h0], by omega, by unfold maxLen; omega, fun hl => by omega⟩
  · refine ⟨_, cap, hv, hn, hm, fun hl => ⟨g, 0, rfl, (Array.getElem?_eq_some_iff.1 hg).1, fun j hj => ?_⟩⟩
    have := h.cells (g := g) (by rw [hv]; rfl) j (.bool l[j]) (by simp [hj])
    rw [add_eq] at this
    exact this
def wholeB (z : Nat) (x : Shd) : Bool := decide (x.2.1.size = z) && (shaSum x.2.1.data.toList).toList == x.2.2.toList
def wholeL (z : Nat) (l : List Shd) : List Bool := l.map (wholeB z)
set_option maxRecDepth 20000 in
set_option maxHeartbeats 8000000 in
theorem whole_any (w : World) (K P Z : Nat) (v : Value) (l : List Shd) (h : ShdB w v l) (hk0 : 0 < K) (hk : K ≤ 16) (hz : Z ≤ 65536) (hl : l.length ≤ 1000) (hd : ∀ x ∈ l, x.2.1.size ≤ 1000000) :
    Calls Tryz.prog 38 #[.agg #[.int .i64 K, .int .i64 P, .int .i64 Z, v]] w fun e w' => ∃ v', e = .returned v' ∧ BoolB w' v' (wholeL ((Z + K - 1) / K) l) ∧ Below w.heap.size w w' := by
  obtain ⟨A, c, rfl, hlc, hcm, h3⟩ := h
  obtain ⟨n, hn⟩ : ∃ n, n = l.length := ⟨_, rfl⟩
  rw [← hn] at hlc hl ⊢
  have HN := Lib.hid hn.symm
  have H3 : Hid (0 < n → ∃ b off, A = some ⟨b, off, none⟩ ∧ b < w.heap.size ∧ ∀ i (h : i < l.length), w.cell? ⟨b, off + i * 3, none⟩ = some (.int .i64 l[i].1) ∧ w.cell? ⟨b, off + i * 3 + 1, none⟩ = some (.string l[i].2.1) ∧ w.cell? ⟨b, off + i * 3 + 2, none⟩ = some (.string l[i].2.2)) := fun hl => h3 (by omega)
  have HSZ := Lib.hid hd
  obtain ⟨z, hzz⟩ : ∃ z, z = (Z + K - 1) / K := ⟨_, rfl⟩
  have hdv : ((Z : Int) + (K : Int) - 1).tdiv (K : Int) = (z : Int) := by
    rw [Int.tdiv_eq_ediv_of_nonneg (by omega), hzz, Int.natCast_ediv]
    congr 1
    omega
  have hz9 : z ≤ 70000 := by have := Nat.div_le_self (Z + K - 1) K; omega
  have hkne : ¬ (K : Int) = 0 := by omega
  have hke : ((K : Int) == 0) = false := by rw [beq_eq_false_iff_ne]; omega
  rw [← hzz]
  clear hzz hn hd h3
  obtain ⟨wE, hwE⟩ : ∃ wE, wE = w.alloc (.cells #[.int .i64 K, .int .i64 P, .int .i64 Z, .slice A n c] 24) := ⟨_, rfl⟩
  have HWE := Lib.hid hwE.symm
  have LOW : Hid (Below w.heap.size w wE) := by rw [hwE]; exact (Below.refl _ _).alloc (Nat.le_refl _) _
  have hbx : wE.heap[w.heap.size]? = some (.cells #[.int .i64 K, .int .i64 P, .int .i64 Z, .slice A n c] 24) := by rw [hwE]; exact World.alloc_heap_new w _
  obtain ⟨x0, x1, x2, x3, _⟩ := cells4b hbx
  have hltE : w.heap.size < wE.heap.size := (Array.getElem?_eq_some_iff.1 hbx).1
  clear hwE hbx
  go_enter Tryz.func38, Tryz.ntmps38
  go_wp2_with fail
  rw [HWE.out]
  go_wp2_with fail
  clear x0 x1 x2 x3
  go_loopw [4, 19] (fun t i wr => ∃ j : Nat, j ≤ n ∧ i = .int .i64 j ∧ Hid (wr.ownsRow wE.heap.size 4 1 t (wholeL z (l.take j)).length ((wholeL z (l.take j)).map .bool)) ∧ wE.heap.size ≤ wr.heap.size ∧ Hid (Below wE.heap.size wE wr)) (fun _ i _ => n - (intOf i).toNat)
  case atStart => exact ⟨0, Nat.zero_le _, rfl, World.ownsRow_nil _ _ _ _, Nat.le_refl _, Below.refl _ _⟩
  case round =>
    obtain ⟨j, hj, rfl, HO, hsz, HB⟩ := hrel
    by_cases hlt : j < n
    · have hlt' : (j : Int) < n := by omega
      obtain ⟨b, off, rfl, hbw, hcl⟩ := H3.out (by omega)
      have hml : j < l.length := by have := HN.out; omega
      have hci := hcl j hml
      have hkb := (HB.out.mono (B' := w.heap.size) LOW.out.size).block b hbw
      have hkb2 := hkb.trans (LOW.out.block b hbw)
      have e0 := (World.cell?_of_block hkb2).trans hci.1
      have e1 := (World.cell?_of_block hkb2).trans hci.2.1
      have e2 := (World.cell?_of_block hkb2).trans hci.2.2
      have hss := HSZ.out l[j] (List.getElem_mem hml)
      have HTK : Hid (wholeL z (l.take (j + 1)) = wholeL z (l.take j) ++ [wholeB z l[j]]) := by
        unfold Hid wholeL; rw [List.take_succ_eq_append_getElem hml, List.map_append]; rfl
      have HLN : Hid ((wholeL z (l.take j)).length = j) := by unfold Hid wholeL; rw [List.length_map, List.length_take]; omega
      generalize wholeL z (l.take j) = bs at *
      generalize l[j] = x at *
      obtain ⟨xn, xd, xs⟩ := x
      dsimp only at e0 e1 e2 hss HTK
      clear hci hkb hkb2 hcl hbw hml
      go_wp2_with fail
      obtain ⟨F, hF⟩ : ∃ F, F = wr.heap.size := ⟨_, rfl⟩
      have HFd : Hid ((wr.alloc (.cells #[.int .i64 xn, .string xd, .string xs] 46 (0, 0))).drew.heap[F]? = some (.cells #[.int .i64 xn, .string xd, .string xs] 46 (0, 0))) := by unfold Hid; rw [hF]; exact World.alloc_heap_new _ _
      have HOd : Hid ((wr.alloc (.cells #[.int .i64 xn, .string xd, .string xs] 46 (0, 0))).drew.ownsRow wE.heap.size 4 1 u4 bs.length (bs.map .bool)) := HO.out.alloc _
      have HBd : Hid (Below wE.heap.size wE (wr.alloc (.cells #[.int .i64 xn, .string xd, .string xs] 46 (0, 0))).drew) := (HB.out.alloc HB.out.size _).drew
      have hFE : wE.heap.size ≤ F := by omega
      have hsd : F + 1 ≤ (wr.alloc (.cells #[.int .i64 xn, .string xd, .string xs] 46 (0, 0))).drew.heap.size := by rw [hF]; exact Nat.le_of_eq (World.size_alloc _ _).symm
      have hFo : ∀ b, u4.ownBlock = some b → b < F := fun b hb => by rw [hF]; exact (HO.out.lt b hb).2
      rw [← hF]
      clear HO HB e0 e1 e2 hF
      refine wp_region_noPanic ?_
      refine wp_region_held_drew (S := fun W => W.heap[F]? = some (.cells #[.int .i64 xn, .string xd, .string xs] 46 (0, 0))) (by kernel_rfl) HFd.out (fun hHeld => ?_)
      generalize (wr.alloc (.cells #[.int .i64 xn, .string xd, .string xs] 46 (0, 0))).drew = wd at *
      by_cases hq : xd.size = z
      · have hqi : ((xd.size : Int) == (z : Int)) = true := by rw [beq_iff_eq]; omega
        have HSUM := Lib.hid (fun W => shaSum_any xd W (by omega))
        have HWB : Hid (wholeB z (xn, xd, xs) = ((shaSum xd.data.toList).toList == xs.toList)) := by unfold Hid wholeB; rw [decide_eq_true hq, Bool.true_and]
        generalize shaSum xd.data.toList = X at *
        refine wpAnyH_take (i := 0) (v := u4) rfl (by kernel_rfl) (by kernel_rfl) (by kernel_rfl) (fun _ _ _ h => h) (Or.inl ⟨by kernel_rfl, ?_⟩) (by assumption) ?_
        · intro wz hSw
          go_simp
        try simp only [Act.put, List.getElem_toArray, List.getElem_cons_succ, List.getElem_cons_zero, List.setIfInBounds_toArray, List.set_cons_zero, List.set_cons_succ]
        refine wpAnyH_take (i := 1) (v := .pointer (some ⟨F, 1, none⟩)) rfl (by kernel_rfl) (by kernel_rfl) (by kernel_rfl) (fun _ _ _ h => h) (Or.inl ⟨by kernel_rfl, ?_⟩) (by assumption) ?_
        · intro wz hSw
          go_simp
        try simp only [Act.put, List.getElem_toArray, List.getElem_cons_succ, List.getElem_cons_zero, List.setIfInBounds_toArray, List.set_cons_zero, List.set_cons_succ]
        refine wpAnyH_take (i := 2) (v := .string xd) rfl (by kernel_rfl) (by kernel_rfl) (by kernel_rfl) (fun _ _ _ h => h) (Or.inl ⟨by kernel_rfl, ?_⟩) (by assumption) ?_
        · intro wz hSw
          have hh := hSw
          obtain ⟨h0, h1, h2, _⟩ := cells3b hh
          go_simp
        try simp only [Act.put, List.getElem_toArray, List.getElem_cons_succ, List.getElem_cons_zero, List.setIfInBounds_toArray, List.set_cons_zero, List.set_cons_succ]
        refine wpAnyH_take (i := 3) (v := .int .i64 (xd.size : Int)) rfl (by kernel_rfl) (by kernel_rfl) (by kernel_rfl) (fun _ _ _ h => h) (Or.inl ⟨by kernel_rfl, ?_⟩) (by assumption) ?_
        · intro wz hSw
          go_simp
        try simp only [Act.put, List.getElem_toArray, List.getElem_cons_succ, List.getElem_cons_zero, List.setIfInBounds_toArray, List.set_cons_zero, List.set_cons_succ]
        refine wpAnyH_take (i := 4) (v := .int .i64 (z : Int)) rfl (by kernel_rfl) (by kernel_rfl) (by kernel_rfl) (fun _ _ _ h => h) (Or.inl ⟨by kernel_rfl, ?_⟩) (by assumption) ?_
        · intro wz hSw
          go_simp
        try simp only [Act.put, List.getElem_toArray, List.getElem_cons_succ, List.getElem_cons_zero, List.setIfInBounds_toArray, List.set_cons_zero, List.set_cons_succ]
        refine wpAnyH_take (i := 5) (v := .bool true) rfl (by kernel_rfl) (by kernel_rfl) (by kernel_rfl) (fun _ _ _ h => h) (Or.inl ⟨by kernel_rfl, ?_⟩) (by assumption) ?_
        · intro wz hSw
          go_simp
        try simp only [Act.put, List.getElem_toArray, List.getElem_cons_succ, List.getElem_cons_zero, List.setIfInBounds_toArray, List.set_cons_zero, List.set_cons_succ]
        refine wpAnyH_take (i := 6) (v := .bool true) rfl (by kernel_rfl) (by kernel_rfl) (by kernel_rfl) (fun _ _ _ h => h) (Or.inl ⟨by kernel_rfl, ?_⟩) (by assumption) ?_
        · intro wz hSw
          go_simp
        try simp only [Act.put, List.getElem_toArray, List.getElem_cons_succ, List.getElem_cons_zero, List.setIfInBounds_toArray, List.set_cons_zero, List.set_cons_succ]
        refine wpAnyH_take (i := 7) (v := .pointer (some ⟨F, 1, none⟩)) rfl (by kernel_rfl) (by kernel_rfl) (by kernel_rfl) (fun _ _ _ h => h) (Or.inl ⟨by kernel_rfl, ?_⟩) (by assumption) ?_
        · intro wz hSw
          go_simp
        try simp only [Act.put, List.getElem_toArray, List.getElem_cons_succ, List.getElem_cons_zero, List.setIfInBounds_toArray, List.set_cons_zero, List.set_cons_succ]
        refine wpAnyH_take (i := 8) (v := .string xd) rfl (by kernel_rfl) (by kernel_rfl) (by kernel_rfl) (fun _ _ _ h => h) (Or.inl ⟨by kernel_rfl, ?_⟩) (by assumption) ?_
        · intro wz hSw
          have hh := hSw
          obtain ⟨h0, h1, h2, _⟩ := cells3b hh
          go_simp
        try simp only [Act.put, List.getElem_toArray, List.getElem_cons_succ, List.getElem_cons_zero, List.setIfInBounds_toArray, List.set_cons_zero, List.set_cons_succ]
        refine wpAnyH_take (i := 10) (v := .pointer (some ⟨F, 2, none⟩)) rfl (by kernel_rfl) (by kernel_rfl) (by kernel_rfl) (fun _ _ _ h => h) (Or.inl ⟨by kernel_rfl, ?_⟩) (by assumption) ?_
        · intro wz hSw
          go_simp
        try simp only [Act.put, List.getElem_toArray, List.getElem_cons_succ, List.getElem_cons_zero, List.setIfInBounds_toArray, List.set_cons_zero, List.set_cons_succ]
        refine wpAnyH_take (i := 11) (v := .string xs) rfl (by kernel_rfl) (by kernel_rfl) (by kernel_rfl) (fun _ _ _ h => h) (Or.inl ⟨by kernel_rfl, ?_⟩) (by assumption) ?_
        · intro wz hSw
          have hh := hSw
          obtain ⟨h0, h1, h2, _⟩ := cells3b hh
          go_simp
        try simp only [Act.put, List.getElem_toArray, List.getElem_cons_succ, List.getElem_cons_zero, List.setIfInBounds_toArray, List.set_cons_zero, List.set_cons_succ]
        refine wpAnyH_ready (rs := [9]) (by kernel_rfl) (by simp) ?_
        refine AllReadyH.cons rfl (fun K hK => ?_) AllReadyH.nil
        go_simp
        go_at_call 44
        refine (HSUM.out _).mono ?_
        rintro er x2 ⟨rfl, b1⟩
        have HFx : Hid (x2.heap[F]? = some (.cells #[.int .i64 xn, .string xd, .string xs] 46 (0, 0))) := (b1.block _ (by omega)).trans HFd.out
        have HBx : Hid (Below wE.heap.size wE x2) := HBd.out.trans (b1.mono HBd.out.size)
        have HOx : Hid (x2.ownsRow wE.heap.size 4 1 u4 bs.length (bs.map .bool)) := HOd.out.kept (grown_of_belowS b1 none) (by
          by_cases e : u4.ownBlock = none
          · exact .inl e
          · exact .inr e)
        have hsx : F + 1 ≤ x2.heap.size := Nat.le_trans hsd b1.size
        clear b1 HFd HBd HOd hsd
        go_wp2_with fail
        refine hK.out _ _ HFx.out (fun hHeld => ?_)
        clear hK K
        try simp only [Act.put, List.getElem_toArray, List.getElem_cons_succ, List.getElem_cons_zero, List.setIfInBounds_toArray, List.set_cons_zero, List.set_cons_succ]
        refine wpAnyH_take (i := 12) (v := .bool (X.toList == xs.toList)) rfl (by kernel_rfl) (by kernel_rfl) (by kernel_rfl) (fun _ _ _ h => h) (Or.inl ⟨by kernel_rfl, ?_⟩) (by assumption) ?_
        · intro wz hSw
          go_simp
        try simp only [Act.put, List.getElem_toArray, List.getElem_cons_succ, List.getElem_cons_zero, List.setIfInBounds_toArray, List.set_cons_zero, List.set_cons_succ]
        refine wpAnyH_take (i := 13) (v := .bool (X.toList == xs.toList)) rfl (by kernel_rfl) (by kernel_rfl) (by kernel_rfl) (fun _ _ _ h => h) (Or.inl ⟨by kernel_rfl, ?_⟩) (by assumption) ?_
        · intro wz hSw
          go_simp
        try simp only [Act.put, List.getElem_toArray, List.getElem_cons_succ, List.getElem_cons_zero, List.setIfInBounds_toArray, List.set_cons_zero, List.set_cons_succ]
        refine wpAnyH_ready (rs := [14]) (by kernel_rfl) (by simp) ?_
        refine AllReadyH.cons rfl (fun K hK => ?_) AllReadyH.nil
        go_simp
        go_wp2_with fail
        have HFa : Hid ((x2.alloc (.cells #[.bool (X.toList == xs.toList)] 4)).heap[F]? = some (.cells #[.int .i64 xn, .string xd, .string xs] 46 (0, 0))) := (Below.heap_alloc _ _ _ (by omega)).trans HFx.out
        refine hK.out _ _ HFa.out (fun hHeld => ?_)
        clear hK K
        try simp only [Act.put, List.getElem_toArray, List.getElem_cons_succ, List.getElem_cons_zero, List.setIfInBounds_toArray, List.set_cons_zero, List.set_cons_succ]
        have HNa : Hid ((x2.alloc (.cells #[.bool (X.toList == xs.toList)] 4)).cell? ⟨x2.heap.size, 0, none⟩ = some (.bool (X.toList == xs.toList))) := by
          unfold Hid World.cell?; rw [World.alloc_heap_new]; rfl
        have HOa : Hid ((x2.alloc (.cells #[.bool (X.toList == xs.toList)] 4)).ownsRow wE.heap.size 4 1 u4 bs.length (bs.map .bool)) := HOx.out.alloc _
        have HBa : Hid (Below wE.heap.size wE (x2.alloc (.cells #[.bool (X.toList == xs.toList)] 4))) := HBx.out.alloc HBx.out.size _
        have hsa : F + 1 ≤ (x2.alloc (.cells #[.bool (X.toList == xs.toList)] 4)).heap.size := by rw [World.size_alloc]; omega
        clear HFx HOx HBx
        generalize (x2.alloc (.cells #[.bool (X.toList == xs.toList)] 4)) = we at *
        refine wpAnyH_ready (rs := [15]) (by kernel_rfl) (by simp) ?_
        refine AllReadyH.cons rfl (fun K hK => ?_) AllReadyH.nil
        simp only [Region.wanted, if_true]
        refine wp_push_bool (.tmp 23) (.tmp 37) 57 rfl Tryz.underlying57 wE.heap.size u4 bs (by go_simp) HOa.out ⟨x2.heap.size, 0, none⟩ 1 (X.toList == xs.toList) (by go_simp) HNa.out (by have := HLN.out; omega) HBa.out.size (fun v' w4 o4 g4 => ?_)
        have HB4 : Hid (Below wE.heap.size wE w4) := HBa.out.grown g4 HBa.out.size (fun q hq => (HOa.out.lt q hq).1)
        have HF4 : Hid (w4.heap[F]? = some (.cells #[.int .i64 xn, .string xd, .string xs] 46 (0, 0))) := (g4.block _ (by omega) (fun e => by have := hFo F e.symm; omega)).trans HFa.out
        have HO4 : Hid (w4.ownsRow wE.heap.size 4 1 v' (wholeL z (l.take (j + 1))).length ((wholeL z (l.take (j + 1))).map .bool)) := by unfold Hid; rw [HTK.out, HWB.out]; exact o4
        have hs4 : wE.heap.size ≤ w4.heap.size := by have := g4.size; omega
        refine hK.out _ _ HF4.out (fun hHeld => ?_)
        clear hK K o4 g4 HFa HOa HBa HNa hsa
        try simp only [Act.put, List.getElem_toArray, List.getElem_cons_succ, List.getElem_cons_zero, List.setIfInBounds_toArray, List.set_cons_zero, List.set_cons_succ]
        refine wpAnyH_take (i := 16) (v := v') rfl (by kernel_rfl) (by kernel_rfl) (by kernel_rfl) (fun _ _ _ h => h) (Or.inl ⟨by kernel_rfl, ?_⟩) (by assumption) ?_
        · intro wz hSw
          go_simp
        refine wpAnyH_done (by kernel_rfl) ?_ _
        refine NoPanic.normal ?_
        go_wp2_with fail
        go_roundw
        case rel => exact ⟨j + 1, by omega, by go_num, HO4, hs4, HB4⟩
        case measure => simp [intOf]; omega
      · have hqi : ((xd.size : Int) == (z : Int)) = false := by rw [beq_eq_false_iff_ne]; omega
        have HWB : Hid (wholeB z (xn, xd, xs) = false) := by unfold Hid wholeB; rw [decide_eq_false hq, Bool.false_and]
        refine wpAnyH_take (i := 0) (v := u4) rfl (by kernel_rfl) (by kernel_rfl) (by kernel_rfl) (fun _ _ _ h => h) (Or.inl ⟨by kernel_rfl, ?_⟩) (by assumption) ?_
        · intro wz hSw
          go_simp
        try simp only [Act.put, List.getElem_toArray, List.getElem_cons_succ, List.getElem_cons_zero, List.setIfInBounds_toArray, List.set_cons_zero, List.set_cons_succ]
        refine wpAnyH_take (i := 1) (v := .pointer (some ⟨F, 1, none⟩)) rfl (by kernel_rfl) (by kernel_rfl) (by kernel_rfl) (fun _ _ _ h => h) (Or.inl ⟨by kernel_rfl, ?_⟩) (by assumption) ?_
        · intro wz hSw
          go_simp
        try simp only [Act.put, List.getElem_toArray, List.getElem_cons_succ, List.getElem_cons_zero, List.setIfInBounds_toArray, List.set_cons_zero, List.set_cons_succ]
        refine wpAnyH_take (i := 2) (v := .string xd) rfl (by kernel_rfl) (by kernel_rfl) (by kernel_rfl) (fun _ _ _ h => h) (Or.inl ⟨by kernel_rfl, ?_⟩) (by assumption) ?_
        · intro wz hSw
          have hh := hSw
          obtain ⟨h0, h1, h2, _⟩ := cells3b hh
          go_simp
        try simp only [Act.put, List.getElem_toArray, List.getElem_cons_succ, List.getElem_cons_zero, List.setIfInBounds_toArray, List.set_cons_zero, List.set_cons_succ]
        refine wpAnyH_take (i := 3) (v := .int .i64 (xd.size : Int)) rfl (by kernel_rfl) (by kernel_rfl) (by kernel_rfl) (fun _ _ _ h => h) (Or.inl ⟨by kernel_rfl, ?_⟩) (by assumption) ?_
        · intro wz hSw
          go_simp
        try simp only [Act.put, List.getElem_toArray, List.getElem_cons_succ, List.getElem_cons_zero, List.setIfInBounds_toArray, List.set_cons_zero, List.set_cons_succ]
        refine wpAnyH_take (i := 4) (v := .int .i64 (z : Int)) rfl (by kernel_rfl) (by kernel_rfl) (by kernel_rfl) (fun _ _ _ h => h) (Or.inl ⟨by kernel_rfl, ?_⟩) (by assumption) ?_
        · intro wz hSw
          go_simp
        try simp only [Act.put, List.getElem_toArray, List.getElem_cons_succ, List.getElem_cons_zero, List.setIfInBounds_toArray, List.set_cons_zero, List.set_cons_succ]
        refine wpAnyH_take (i := 5) (v := .bool false) rfl (by kernel_rfl) (by kernel_rfl) (by kernel_rfl) (fun _ _ _ h => h) (Or.inl ⟨by kernel_rfl, ?_⟩) (by assumption) ?_
        · intro wz hSw
          go_simp
        try simp only [Act.put, List.getElem_toArray, List.getElem_cons_succ, List.getElem_cons_zero, List.setIfInBounds_toArray, List.set_cons_zero, List.set_cons_succ]
        refine wpAnyH_take (i := 6) (v := .bool false) rfl (by kernel_rfl) (by kernel_rfl) (by kernel_rfl) (fun _ _ _ h => h) (Or.inl ⟨by kernel_rfl, ?_⟩) (by assumption) ?_
        · intro wz hSw
          go_simp
        try simp only [Act.put, List.getElem_toArray, List.getElem_cons_succ, List.getElem_cons_zero, List.setIfInBounds_toArray, List.set_cons_zero, List.set_cons_succ]
        refine wpAnyH_take (i := 7) (v := undef) rfl (by kernel_rfl) (by kernel_rfl) (by kernel_rfl) (fun _ _ _ h => h) (Or.inr ⟨by kernel_rfl, rfl⟩) (by assumption) ?_
        try simp only [Act.put, List.getElem_toArray, List.getElem_cons_succ, List.getElem_cons_zero, List.setIfInBounds_toArray, List.set_cons_zero, List.set_cons_succ]
        refine wpAnyH_take (i := 8) (v := undef) rfl (by kernel_rfl) (by kernel_rfl) (by kernel_rfl) (fun _ _ _ h => h) (Or.inr ⟨by kernel_rfl, rfl⟩) (by assumption) ?_
        try simp only [Act.put, List.getElem_toArray, List.getElem_cons_succ, List.getElem_cons_zero, List.setIfInBounds_toArray, List.set_cons_zero, List.set_cons_succ]
        refine wpAnyH_take (i := 9) (v := undef) rfl (by kernel_rfl) (by kernel_rfl) (by kernel_rfl) (fun _ _ _ h => h) (Or.inr ⟨by kernel_rfl, rfl⟩) (by assumption) ?_
        try simp only [Act.put, List.getElem_toArray, List.getElem_cons_succ, List.getElem_cons_zero, List.setIfInBounds_toArray, List.set_cons_zero, List.set_cons_succ]
        refine wpAnyH_take (i := 10) (v := undef) rfl (by kernel_rfl) (by kernel_rfl) (by kernel_rfl) (fun _ _ _ h => h) (Or.inr ⟨by kernel_rfl, rfl⟩) (by assumption) ?_
        try simp only [Act.put, List.getElem_toArray, List.getElem_cons_succ, List.getElem_cons_zero, List.setIfInBounds_toArray, List.set_cons_zero, List.set_cons_succ]
        refine wpAnyH_take (i := 11) (v := undef) rfl (by kernel_rfl) (by kernel_rfl) (by kernel_rfl) (fun _ _ _ h => h) (Or.inr ⟨by kernel_rfl, rfl⟩) (by assumption) ?_
        try simp only [Act.put, List.getElem_toArray, List.getElem_cons_succ, List.getElem_cons_zero, List.setIfInBounds_toArray, List.set_cons_zero, List.set_cons_succ]
        refine wpAnyH_take (i := 12) (v := undef) rfl (by kernel_rfl) (by kernel_rfl) (by kernel_rfl) (fun _ _ _ h => h) (Or.inr ⟨by kernel_rfl, rfl⟩) (by assumption) ?_
        try simp only [Act.put, List.getElem_toArray, List.getElem_cons_succ, List.getElem_cons_zero, List.setIfInBounds_toArray, List.set_cons_zero, List.set_cons_succ]
        refine wpAnyH_take (i := 13) (v := .bool false) rfl (by kernel_rfl) (by kernel_rfl) (by kernel_rfl) (fun _ _ _ h => h) (Or.inl ⟨by kernel_rfl, ?_⟩) (by assumption) ?_
        · intro wz hSw
          go_simp
        try simp only [Act.put, List.getElem_toArray, List.getElem_cons_succ, List.getElem_cons_zero, List.setIfInBounds_toArray, List.set_cons_zero, List.set_cons_succ]
        refine wpAnyH_ready (rs := [14]) (by kernel_rfl) (by simp) ?_
        refine AllReadyH.cons rfl (fun K hK => ?_) AllReadyH.nil
        go_simp
        go_wp2_with fail
        have HFa : Hid ((wd.alloc (.cells #[.bool (false)] 4)).heap[F]? = some (.cells #[.int .i64 xn, .string xd, .string xs] 46 (0, 0))) := (Below.heap_alloc _ _ _ (by omega)).trans HFd.out
        refine hK.out _ _ HFa.out (fun hHeld => ?_)
        clear hK K
        try simp only [Act.put, List.getElem_toArray, List.getElem_cons_succ, List.getElem_cons_zero, List.setIfInBounds_toArray, List.set_cons_zero, List.set_cons_succ]
        have HNa : Hid ((wd.alloc (.cells #[.bool (false)] 4)).cell? ⟨wd.heap.size, 0, none⟩ = some (.bool (false))) := by
          unfold Hid World.cell?; rw [World.alloc_heap_new]; rfl
        have HOa : Hid ((wd.alloc (.cells #[.bool (false)] 4)).ownsRow wE.heap.size 4 1 u4 bs.length (bs.map .bool)) := HOd.out.alloc _
        have HBa : Hid (Below wE.heap.size wE (wd.alloc (.cells #[.bool (false)] 4))) := HBd.out.alloc HBd.out.size _
        have hsa : F + 1 ≤ (wd.alloc (.cells #[.bool (false)] 4)).heap.size := by rw [World.size_alloc]; omega
        clear HFd HOd HBd
        generalize (wd.alloc (.cells #[.bool (false)] 4)) = we at *
        refine wpAnyH_ready (rs := [15]) (by kernel_rfl) (by simp) ?_
        refine AllReadyH.cons rfl (fun K hK => ?_) AllReadyH.nil
        simp only [Region.wanted, if_true]
        refine wp_push_bool (.tmp 23) (.tmp 37) 57 rfl Tryz.underlying57 wE.heap.size u4 bs (by go_simp) HOa.out ⟨wd.heap.size, 0, none⟩ 1 (false) (by go_simp) HNa.out (by have := HLN.out; omega) HBa.out.size (fun v' w4 o4 g4 => ?_)
        have HB4 : Hid (Below wE.heap.size wE w4) := HBa.out.grown g4 HBa.out.size (fun q hq => (HOa.out.lt q hq).1)
        have HF4 : Hid (w4.heap[F]? = some (.cells #[.int .i64 xn, .string xd, .string xs] 46 (0, 0))) := (g4.block _ (by omega) (fun e => by have := hFo F e.symm; omega)).trans HFa.out
        have HO4 : Hid (w4.ownsRow wE.heap.size 4 1 v' (wholeL z (l.take (j + 1))).length ((wholeL z (l.take (j + 1))).map .bool)) := by unfold Hid; rw [HTK.out, HWB.out]; exact o4
        have hs4 : wE.heap.size ≤ w4.heap.size := by have := g4.size; omega
        refine hK.out _ _ HF4.out (fun hHeld => ?_)
        clear hK K o4 g4 HFa HOa HBa HNa hsa
        try simp only [Act.put, List.getElem_toArray, List.getElem_cons_succ, List.getElem_cons_zero, List.setIfInBounds_toArray, List.set_cons_zero, List.set_cons_succ]
        refine wpAnyH_take (i := 16) (v := v') rfl (by kernel_rfl) (by kernel_rfl) (by kernel_rfl) (fun _ _ _ h => h) (Or.inl ⟨by kernel_rfl, ?_⟩) (by assumption) ?_
        · intro wz hSw
          go_simp
        refine wpAnyH_done (by kernel_rfl) ?_ _
        refine NoPanic.normal ?_
        go_wp2_with fail
        go_roundw
        case rel => exact ⟨j + 1, by omega, by go_num, HO4, hs4, HB4⟩
        case measure => simp [intOf]; omega
    · obtain rfl : j = n := by omega
      have hE : l.take j = l := by rw [← HN.out, List.take_length]
      rw [hE] at HO
      clear hE
      go_wp2_with fail
      go_ret
      exact ⟨_, rfl, BoolB.of_owns HO.out, LOW.out.trans (HB.out.mono LOW.out.size)⟩
def datasL (l : List Shd) : List ByteArray := l.map fun x => x.2.1
def mendedE (K Z : Nat) (l : List Shd) : Int := mendE (datasL l) (wholeL ((Z + K - 1) / K) l) K
def mendedV (K Z : Nat) (l : List Shd) : List ByteArray := mendV (datasL l) (wholeL ((Z + K - 1) / K) l) K
def textE (K Z : Nat) (l : List Shd) : Int := if mendedE K Z l = 0 then joinE (mendedV K Z l) Z else mendedE K Z l
def textB (K Z : Nat) (l : List Shd) : ByteArray := if mendedE K Z l = 0 then joinB (mendedV K Z l) Z else ⟨#[]⟩
set_option maxRecDepth 20000 in
set_option maxHeartbeats 8000000 in
theorem text_any (w : World) (K P Z : Nat) (v : Value) (l : List Shd) (h : ShdB w v l) (hf : fitW K P Z l = true) (hl : l.length ≤ 1000) (hd : ∀ x ∈ l, x.2.1.size ≤ 1000000 ∧ x.2.2.size ≤ 1000000) (hM : mendedE K Z l = 0 → (catL (mendedV K Z l)).length ≤ 1000000000 ∧ (mendedV K Z l).length ≤ 1000000) :
    Calls Tryz.prog 16 #[.agg #[.int .i64 K, .int .i64 P, .int .i64 Z, v]] w fun e w' => e = .returned (.tuple #[.string (textB K Z l), .int .i64 (textE K Z l)]) ∧ Below w.heap.size w w' := by
  have hf0 := hf
  unfold fitW fewK at hf
  simp only [Bool.and_eq_true, decide_eq_true_iff] at hf
  have hk0 : 0 < K := by omega
  have hk : K ≤ 16 := by omega
  have hz : Z ≤ 65536 := by omega
  obtain ⟨A, c, rfl, hlc, hcm⟩ := h.shape
  obtain ⟨n, hn⟩ : ∃ n, n = l.length := ⟨_, rfl⟩
  rw [← hn] at hl hlc h ⊢
  have HN := Lib.hid hn.symm
  have hn9 : n ≤ 9223372036854775807 := by omega
  obtain ⟨wE, hwE⟩ : ∃ wE, wE = w.alloc (.cells #[.int .i64 K, .int .i64 P, .int .i64 Z, .slice A n c] 24) := ⟨_, rfl⟩
  have HWE := Lib.hid hwE.symm
  have hb0 : Below w.heap.size w wE := by rw [hwE]; exact (Below.refl _ _).alloc (Nat.le_refl _) _
  have LOW := Lib.hid hb0
  have hbx : wE.heap[w.heap.size]? = some (.cells #[.int .i64 K, .int .i64 P, .int .i64 Z, .slice A n c] 24) := by rw [hwE]; exact World.alloc_heap_new w _
  have HBX := Lib.hid hbx
  have HL := Lib.hid (h.below hb0 (Nat.le_refl _))
  have HFT := Lib.hid (pfit_any wE K P Z _ l HL.out (by omega) (fun x hx => (hd x hx).2))
  rw [hf0] at HFT
  have HWH := Lib.hid (fun W (h : ShdB W (.slice A n c) l) => whole_any W K P Z _ l h hk0 hk hz (by omega) (fun x hx => (hd x hx).1))
  have HMN := Lib.hid (fun W va vh (ha : StrsB W va (datasL l)) (hb : BoolB W vh (wholeL ((Z + K - 1) / K) l)) => mend_any W va vh (datasL l) (wholeL ((Z + K - 1) / K) l) K ha hb (fun x hx => by
    obtain ⟨y, hy, rfl⟩ := List.mem_map.1 hx
    have := (hd y hy).1; omega))
  have HJN := Lib.hid (fun (h0 : mendedE K Z l = 0) W va (ha : StrsB W va (mendedV K Z l)) => pjoin_any W va (mendedV K Z l) Z ha (hM h0).1 (hM h0).2)
  have HEE : Hid (mendE (datasL l) (wholeL ((Z + K - 1) / K) l) K = mendedE K Z l) := rfl
  have HVV : Hid (mendV (datasL l) (wholeL ((Z + K - 1) / K) l) K = mendedV K Z l) := rfl
  rw [HEE.out, HVV.out] at HMN
  have HTB : Hid (textB K Z l = if mendedE K Z l = 0 then joinB (mendedV K Z l) Z else ⟨#[]⟩) := rfl
  have HTE : Hid (textE K Z l = if mendedE K Z l = 0 then joinE (mendedV K Z l) Z else mendedE K Z l) := rfl
  generalize mendedE K Z l = E at *
  generalize mendedV K Z l = M at *
  generalize textB K Z l = TB at *
  generalize textE K Z l = TE at *
  generalize wholeL ((Z + K - 1) / K) l = WL at *
  obtain ⟨x0, x1, x2, x3, _⟩ := cells4b hbx
  clear hwE hbx hf hf0 hM hd hn h hb0 HEE HVV
  go_enter Tryz.func16, Tryz.ntmps16
  go_wp2_with fail
  rw [HWE.out]
  go_wp2_with fail
  refine HFT.out.mono ?_
  rintro e w1 ⟨rfl, b1⟩
  have LOW1 : Hid (Below w.heap.size w w1) := LOW.out.trans (b1.mono LOW.out.size)
  have HBX1 := Lib.hid ((b1.block _ (Array.getElem?_eq_some_iff.1 HBX.out).1).trans HBX.out)
  have HL1 := Lib.hid (HL.out.below b1 (Nat.le_refl _))
  have hlt1 := (Array.getElem?_eq_some_iff.1 HBX1.out).1
  obtain ⟨x0, x1, x2, x3, _⟩ := cells4b HBX1.out
  clear b1 LOW HBX HL HFT HWE
  go_wp2_with fail
  clear x0 x1 x2 x3
  go_loopw [4, 15] (fun t i wr => ∃ j : Nat, j ≤ n ∧ i = .int .i64 j ∧ Hid (wr.ownsRow w1.heap.size 9 1 t (datasL (l.take j)).length ((datasL (l.take j)).map .string)) ∧ w1.heap.size ≤ wr.heap.size ∧ Hid (Below w1.heap.size w1 wr)) (fun _ i _ => n - (intOf i).toNat)
  case atStart => exact ⟨0, Nat.zero_le _, rfl, World.ownsRow_nil _ _ _ _, Nat.le_refl _, Below.refl _ _⟩
  case round =>
    obtain ⟨j, hj, rfl, HO, hsz, HB⟩ := hrel
    by_cases hlt : j < n
    · have hlt' : (j : Int) < n := by omega
      have hml : j < l.length := by have := HN.out; omega
      obtain ⟨b, off, rfl, hbw, hcl⟩ : ∃ b off, A = some ⟨b, off, none⟩ ∧ b < w1.heap.size ∧ ∀ i (h : i < l.length), w1.cell? ⟨b, off + i * 3, none⟩ = some (.int .i64 l[i].1) ∧ w1.cell? ⟨b, off + i * 3 + 1, none⟩ = some (.string l[i].2.1) ∧ w1.cell? ⟨b, off + i * 3 + 2, none⟩ = some (.string l[i].2.2) := by
        obtain ⟨A', c', e, h1, h2, h3⟩ := HL1.out
        injection e with e1 e2 e3
        subst e1
        exact h3 (by omega)
      have hci := hcl j hml
      have hkb := HB.out.block b hbw
      have e0 := (World.cell?_of_block hkb).trans hci.1
      have e1 := (World.cell?_of_block hkb).trans hci.2.1
      have e2 := (World.cell?_of_block hkb).trans hci.2.2
      have HTK : Hid (datasL (l.take (j + 1)) = datasL (l.take j) ++ [l[j].2.1]) := by
        unfold Hid datasL; rw [List.take_succ_eq_append_getElem hml, List.map_append]; rfl
      have HLN : Hid ((datasL (l.take j)).length = j) := by unfold Hid datasL; rw [List.length_map, List.length_take]; omega
      have hle : (datasL (l.take j)).length + 1 ≤ 1000000000 := by rw [HLN.out]; omega
      generalize datasL (l.take j) = bs at *
      generalize l[j] = x at *
      obtain ⟨xn, xd, xs⟩ := x
      dsimp only at e0 e1 e2 HTK
      have g1 : (wr.alloc (.cells #[.int .i64 xn, .string xd, .string xs] 46)).cell? ⟨wr.heap.size, 1, none⟩ = some (.string xd) := (cells3b (World.alloc_heap_new wr (.cells #[.int .i64 xn, .string xd, .string xs] 46))).2.1
      have HOa : Hid ((wr.alloc (.cells #[.int .i64 xn, .string xd, .string xs] 46)).ownsRow w1.heap.size 9 1 u4 bs.length (bs.map .string)) := HO.out.alloc _
      have HBa : Hid (Below w1.heap.size w1 (wr.alloc (.cells #[.int .i64 xn, .string xd, .string xs] 46))) := HB.out.alloc HB.out.size _
      have HCL : Hid (((wr.alloc (.cells #[.int .i64 xn, .string xd, .string xs] 46)).alloc (.cells #[.string xd] 9)).cell? ⟨wr.heap.size + 1, 0, none⟩ = some (.string xd)) := by
        have h := World.alloc_heap_new (wr.alloc (.cells #[.int .i64 xn, .string xd, .string xs] 46)) (.cells #[.string xd] 9)
        rw [World.size_alloc] at h
        unfold Hid World.cell?; rw [h]; rfl
      clear hci hkb hcl hbw hml HO HB
      go_wp2_with (at_builtin; refine wpList_push_str rfl _ _ 37 rfl Tryz.underlying37 w1.heap.size u4 bs rfl (HOa.out.alloc _) ⟨wr.heap.size + 1, 0, none⟩ 1 xd rfl HCL.out hle (by simp; omega) ?_)
      intro v' w4 o4 g4
      have HO4 : Hid (w4.ownsRow w1.heap.size 9 1 v' (datasL (l.take (j + 1))).length ((datasL (l.take (j + 1))).map .string)) := by unfold Hid; rw [HTK.out]; simpa using o4
      have HB4 : Hid (Below w1.heap.size w1 w4) := (HBa.out.alloc (by simp; omega) _).grown g4 (by simp; omega) (fun k hk => (HOa.out.lt k hk).1)
      have hs4 : w1.heap.size ≤ w4.heap.size := HB4.out.size
      clear o4 g4 HOa HBa HCL g1 e0 e1 e2
      go_wp2_with fail
      go_roundw
      case rel => exact ⟨j + 1, by omega, by go_num, HO4, hs4, HB4⟩
      case measure => simp [intOf]; omega
    · obtain rfl : j = n := by omega
      have hE : datasL (l.take j) = datasL l := by rw [← HN.out, List.take_length]
      rw [hE] at HO
      clear hE
      have hS4 := StrsB.of_owns HO.out
      obtain ⟨A4, c4, hv4, _, _⟩ := hS4.len
      subst hv4
      have HSd : Hid (StrsB wr.drew (.slice A4 (datasL l).length c4) (datasL l)) := hS4
      clear hS4
      generalize (datasL l).length = q at *
      have HLd : Hid (ShdB wr.drew (.slice A j c) l) := HL1.out.below HB.out.drew (Nat.le_refl _)
      have HBd : Hid (Below w.heap.size w wr.drew) := (LOW1.out.trans (HB.out.mono LOW1.out.size)).drew
      have HVd : Hid (wr.drew.heap[w.heap.size]? = some (.cells #[.int .i64 K, .int .i64 P, .int .i64 Z, .slice A j c] 24 (0, 0))) := (HB.out.block _ hlt1).trans HBX1.out
      clear HO HB HL1 LOW1 HBX1
      go_wp2_with fail
      refine wp_region_noPanic ?_
      refine wp_region_held_drew (S := fun w' => Below wr.drew.heap.size wr.drew w') (by kernel_rfl) (Below.refl _ _) (fun hHeld => ?_)
      generalize wr.drew = wd at *
      have B_wd : Hid (Below wd.heap.size wd wd) := Below.refl _ _
      have GV := Lib.hid (fun W (hW : Below wd.heap.size wd W) => cells4b ((hW.block _ (Array.getElem?_eq_some_iff.1 HVd.out).1).trans HVd.out))
      refine wpAnyH_take (i := 0) (v := .slice A4 q c4) rfl (by kernel_rfl) (by kernel_rfl) (by kernel_rfl) (fun _ _ _ h => h) (Or.inl ⟨by kernel_rfl, ?_⟩) (by assumption) ?_
      · intro wz hSw
        go_simp
      try simp only [Act.put, List.getElem_toArray, List.getElem_cons_succ, List.getElem_cons_zero, List.setIfInBounds_toArray, List.set_cons_zero, List.set_cons_succ]
      refine wpAnyH_take (i := 1) (v := .agg #[.int .i64 K, .int .i64 P, .int .i64 Z, .slice A j c]) rfl (by kernel_rfl) (by kernel_rfl) (by kernel_rfl) (fun _ _ _ h => h) (Or.inl ⟨by kernel_rfl, ?_⟩) (by assumption) ?_
      · intro wz hSw
        obtain ⟨h0, h1, h2, h3, _⟩ := GV.out wz hSw
        go_simp
      try simp only [Act.put, List.getElem_toArray, List.getElem_cons_succ, List.getElem_cons_zero, List.setIfInBounds_toArray, List.set_cons_zero, List.set_cons_succ]
      refine wpAnyH_take (i := 3) (v := .pointer (some ⟨w.heap.size, 0, none⟩)) rfl (by kernel_rfl) (by kernel_rfl) (by kernel_rfl) (fun _ _ _ h => h) (Or.inl ⟨by kernel_rfl, ?_⟩) (by assumption) ?_
      · intro wz hSw
        go_simp
      try simp only [Act.put, List.getElem_toArray, List.getElem_cons_succ, List.getElem_cons_zero, List.setIfInBounds_toArray, List.set_cons_zero, List.set_cons_succ]
      refine wpAnyH_take (i := 4) (v := .int .i64 (K : Int)) rfl (by kernel_rfl) (by kernel_rfl) (by kernel_rfl) (fun _ _ _ h => h) (Or.inl ⟨by kernel_rfl, ?_⟩) (by assumption) ?_
      · intro wz hSw
        obtain ⟨h0, h1, h2, h3, _⟩ := GV.out wz hSw
        go_simp
      try simp only [Act.put, List.getElem_toArray, List.getElem_cons_succ, List.getElem_cons_zero, List.setIfInBounds_toArray, List.set_cons_zero, List.set_cons_succ]
      refine wpAnyH_ready (rs := [2]) (by kernel_rfl) (by simp) ?_
      refine AllReadyH.cons rfl (fun K hK => ?_) AllReadyH.nil
      go_simp
      go_at_call 38
      refine (HWH.out wd (HLd.out.below B_wd.out (Nat.le_refl _))).mono ?_
      rintro er x1 ⟨vw, rfl, hw, b1⟩
      have B_x1 : Hid (Below wd.heap.size wd x1) := Lib.hid (B_wd.out.trans (b1.mono B_wd.out.size))
      have HWB := Lib.hid hw
      clear hw
      clear b1
      go_wp2_with fail
      refine hK.out _ _ B_x1.out (fun hHeld => ?_)
      clear hK K
      try simp only [Act.put, List.getElem_toArray, List.getElem_cons_succ, List.getElem_cons_zero, List.setIfInBounds_toArray, List.set_cons_zero, List.set_cons_succ]
      refine wpAnyH_ready (rs := [5]) (by kernel_rfl) (by simp) ?_
      refine AllReadyH.cons rfl (fun K hK => ?_) AllReadyH.nil
      go_simp
      go_at_call 37
      refine (HMN.out x1 _ _ (HSd.out.below B_x1.out (Nat.le_refl _)) HWB.out).mono ?_
      rintro er x2 ⟨vm, rfl, hm, b1⟩
      have B_x2 : Hid (Below wd.heap.size wd x2) := Lib.hid (B_x1.out.trans (b1.mono B_x1.out.size))
      have HMS := Lib.hid hm.1
      clear hm
      clear b1
      go_wp2_with fail
      refine hK.out _ _ B_x2.out (fun hHeld => ?_)
      clear hK K
      try simp only [Act.put, List.getElem_toArray, List.getElem_cons_succ, List.getElem_cons_zero, List.setIfInBounds_toArray, List.set_cons_zero, List.set_cons_succ]
      refine wpAnyH_take (i := 6) (v := .tuple #[vm, .int .i64 E]) rfl (by kernel_rfl) (by kernel_rfl) (by kernel_rfl) (fun _ _ _ h => h) (Or.inl ⟨by kernel_rfl, ?_⟩) (by assumption) ?_
      · intro wz hSw
        go_simp
      try simp only [Act.put, List.getElem_toArray, List.getElem_cons_succ, List.getElem_cons_zero, List.setIfInBounds_toArray, List.set_cons_zero, List.set_cons_succ]
      refine wpAnyH_take (i := 7) (v := vm) rfl (by kernel_rfl) (by kernel_rfl) (by kernel_rfl) (fun _ _ _ h => h) (Or.inl ⟨by kernel_rfl, ?_⟩) (by assumption) ?_
      · intro wz hSw
        go_simp
      try simp only [Act.put, List.getElem_toArray, List.getElem_cons_succ, List.getElem_cons_zero, List.setIfInBounds_toArray, List.set_cons_zero, List.set_cons_succ]
      refine wpAnyH_take (i := 8) (v := .int .i64 E) rfl (by kernel_rfl) (by kernel_rfl) (by kernel_rfl) (fun _ _ _ h => h) (Or.inl ⟨by kernel_rfl, ?_⟩) (by assumption) ?_
      · intro wz hSw
        go_simp
      try simp only [Act.put, List.getElem_toArray, List.getElem_cons_succ, List.getElem_cons_zero, List.setIfInBounds_toArray, List.set_cons_zero, List.set_cons_succ]
      refine wpAnyH_take (i := 9) (v := vm) rfl (by kernel_rfl) (by kernel_rfl) (by kernel_rfl) (fun _ _ _ h => h) (Or.inl ⟨by kernel_rfl, ?_⟩) (by assumption) ?_
      · intro wz hSw
        go_simp
      try simp only [Act.put, List.getElem_toArray, List.getElem_cons_succ, List.getElem_cons_zero, List.setIfInBounds_toArray, List.set_cons_zero, List.set_cons_succ]
      refine wpAnyH_take (i := 10) (v := .int .i64 E) rfl (by kernel_rfl) (by kernel_rfl) (by kernel_rfl) (fun _ _ _ h => h) (Or.inl ⟨by kernel_rfl, ?_⟩) (by assumption) ?_
      · intro wz hSw
        go_simp
      refine wpAnyH_done (by kernel_rfl) ?_ _
      refine NoPanic.normal ?_
      have HBx : Hid (Below w.heap.size w x2) := HBd.out.trans (B_x2.out.mono HBd.out.size)
      obtain ⟨h0, h1, h2, h3, _⟩ := GV.out x2 B_x2.out
      clear HSd HLd HBd HVd GV HWB B_x2 B_x1 B_wd h0 h1 h3 hHeld HWH HMN
      by_cases hE0 : E = 0
      · subst hE0
        rw [if_pos rfl] at HTB HTE
        have HJ := Lib.hid (HJN.out rfl)
        clear HJN
        go_wp2_with fail
        refine (HJ.out _ _ HMS.out).mono ?_
        rintro e w4 ⟨rfl, b4⟩
        have HZ := Lib.hid (HBx.out.trans (b4.mono HBx.out.size))
        clear b4
        go_wp2_with fail
        go_ret2
        exact ⟨by rw [HTB.out, HTE.out]; first | done | rfl, HZ.out⟩
      · have hne : (E != 0) = true := by simpa using hE0
        rw [if_neg hE0] at HTB HTE
        clear HJN hE0
        go_wp2_with fail
        go_ret2
        exact ⟨by rw [HTB.out, HTE.out]; first | done | rfl, HBx.out⟩
end Go.Proofs.YtfpofcfoeajkiaaGreat
