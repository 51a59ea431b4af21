/- Walks: chapter 33's index: common, indexed, best. -/
import Derived.Test.YtlkpgefapcfdbaaDeltaM8
import Derived.Test.YtlkpgefapcfdbaaDeltaM7
import Derived.Deep.RegionHeld3
namespace Go.Proofs.Ytlkpgefapcfdbaa
open Go.RowKit Go.Maps Go.WideMaps
set_option linter.unusedVariables false
set_option linter.unusedSimpArgs false
set_option maxHeartbeats 2000000 in
theorem common_any (b s : ByteArray) (mp : Value) (at' : Nat) (hb : b.size ≤ 1000000) (hs : s.size ≤ 1000000) (ha : at' ≤ b.size) (w : World) :
    Calls Try.prog 40 #[.agg #[.string b, mp], .int .i64 at', .string s] w fun e w' => e = .returned (.int .i64 (comm (b.data.toList.drop at') s.data.toList : Nat)) ∧ Below w.heap.size w w' := by
  have HD := Lib.hid (from_list b at')
  have hdl : (b.extract at' b.size).data.toList = b.data.toList.drop at' := by rw [from_list]
  have hsz : (b.extract at' b.size).size ≤ b.size := by rw [ByteArray.size_extract]; omega
  rw [← hdl]
  clear hdl HD
  go_enter Try.func40, Try.ntmps40
  go_wp2_with fail
  generalize hT : b.extract at' b.size = t at *
  have HTT := Lib.hid hT
  clear hT
  have htb : t.size ≤ 1000000 := by omega
  clear hsz hb ha
  go_loopw [8] (fun v8 wr => ∃ n : Nat, v8 = .int .i64 (n : Nat) ∧ n ≤ t.size ∧ n ≤ s.size ∧ Hid (comm t.data.toList s.data.toList = n + comm (t.data.toList.drop n) (s.data.toList.drop n)) ∧ Hid (Below w.heap.size w wr)) (fun v8 _ => t.size - (intOf v8).toNat)
  case atStart => exact ⟨0, rfl, Nat.zero_le _, Nat.zero_le _, by unfold Hid; simp, Lib.hid ((Below.refl _ _).alloc (Nat.le_refl _) _)⟩
  case round =>
    obtain ⟨n, rfl, h1, h2, HC, HB⟩ := hrel
    have HBQ := Lib.hid (fun m => HB.out.trans ((below_drewN wr m).mono HB.out.size))
    by_cases hp : n < t.size
    · by_cases hq : n < s.size
      · by_cases hx : t[n] = s[n]
        · have HC2 : Hid (comm t.data.toList s.data.toList = (n + 1) + comm (t.data.toList.drop (n + 1)) (s.data.toList.drop (n + 1))) := by
            unfold Hid
            rw [HC.out, comm_on t s n n hp hq hx]
            omega
          have hx' : (((t[n]).toNat : Int) == ((s[n]).toNat : Int)) = true := by simp [hx]
          go_wp2_with fail
          go_quiet (fail)
          go_wp2_with fail
          exact ⟨⟨n + 1, by go_num, by omega, by omega, HC2, Lib.hid (HBQ.out _)⟩, by simp [intOf]; omega⟩
        · have hx' : (((t[n]).toNat : Int) == ((s[n]).toNat : Int)) = false := by simp; intro e; exact hx (UInt8.toNat_inj.1 (by omega))
          have HE : Hid (comm t.data.toList s.data.toList = n) := by unfold Hid; rw [HC.out, comm_off t s n n hp hq hx]; rfl
          clear HC
          go_wp2_with fail
          go_quiet (fail)
          go_wp2_with fail
          go_ret
          rw [HTT.out, HE.out]
          exact ⟨rfl, HBQ.out _⟩
      · have hq' : (s.size : Int) ≤ (n : Int) := by omega
        have HE : Hid (comm t.data.toList s.data.toList = n) := by unfold Hid; rw [HC.out, comm_endR t s n n (by omega)]; rfl
        clear HC
        go_wp2_with fail
        go_quiet (fail)
        go_wp2_with fail
        go_ret
        rw [HTT.out, HE.out]
        exact ⟨rfl, HBQ.out _⟩
    · have hp' : (t.size : Int) ≤ (n : Int) := by omega
      have HE : Hid (comm t.data.toList s.data.toList = n) := by unfold Hid; rw [HC.out, comm_endL t s n n (by omega)]; rfl
      clear HC
      go_wp2_with fail
      go_quiet (fail)
      go_wp2_with fail
      go_ret
      rw [HTT.out, HE.out]
      exact ⟨rfl, HBQ.out _⟩
theorem placesElem : (Try.prog.info? 3).map (fun i => (i.zero, i.size, i.bytes)) = some (some (.int .i64 0), 1, 8) := by kernel_rfl
theorem placesZero (w : World) : (zeroValue 76).run Try.prog w = .ok (.slice none 0 0) w := by kernel_rfl
theorem strLaw : Keyed Try.prog 9 := string_keyed Try.underlying9
theorem key_mk (base : ByteArray) (i : Nat) : keyOf Try.prog 9 (.string (base.extract i (i + 8))) = some (.string ((base.data.toList.drop i).take 8)) := by
  rw [keyOf_string_mk Try.underlying9 (by rw [ByteArray.size_extract]; unfold maxLen; omega), mid_list]
theorem one_ready {P : Program} {md : Region.Mode} {ops : Array Oper} {Q : Exit → Act → World → Prop} {S : World → Prop} {fuel : Nat} {listed : Array Bool} {a : Act} {w : World} (i : Nat) (o : Oper) (hr : Region.ready md ops listed = [i]) (ho : ops[i]? = some o)
    (hw : Region.wanted o (yielded ops a.tmps) = true) (h : ∀ K' : Act → World → Prop, Shut (∀ a w, S w → (S w → wpAnyH P md ops Q S fuel (listed.setIfInBounds i true) a w) → K' a w) → Oper.wp P o a w K' Q) : wpAnyH P md ops Q S (fuel + 1) listed a w :=
  wpAnyH_ready hr (by simp) (AllReadyH.cons ho (fun K hK => by rw [if_pos hw]; exact h K hK) AllReadyH.nil)
theorem one_val {P : Program} {md : Region.Mode} {ops : Array Oper} {Q : Exit → Act → World → Prop} {S : World → Prop} {fuel : Nat} {listed : Array Bool} {a : Act} {w : World} (i : Nat) (o : Oper) (hr : Region.ready md ops listed = [i]) (ho : ops[i]? = some o)
    (hw : Region.wanted o (yielded ops a.tmps) = true) (v : Value) (w' : World) (hrun : (execOp a.eval o).run P w = .ok (.value v) w') (hS : S w')
    (h : wpAnyH P md ops Q S fuel (listed.setIfInBounds i true) (a.put o.dst v) w') : wpAnyH P md ops Q S (fuel + 1) listed a w :=
  one_ready i o hr ho hw fun K hK => by
    unfold Oper.wp
    rw [hrun]
    exact hK.out _ _ hS (fun _ => h)
theorem wp_append_at {P : Program} {w : World} {o : Oper} {a : Act} {K : Act → World → Prop} {Q : Exit → Act → World → Prop} (s x : Operand) (t : TypeId)
    (ho : o.op = .call { callee := .builtin .append, args := #[s, x], argTypes := #[t, t] })
    (base : Nat) (e : TypeId) (i : TypeInfo) (z : Value) (size bytes : Nat) (ht : P.underlying t = some (.slice e)) (hi : P.info? e = some i) (hz : i.zero = some z)
    (hsize : i.size = size) (hby : i.bytes = bytes) (hzs : z.cells.size = size) (hsz : 0 < size)
    (v : Value) (n : Nat) (xs : List Value) (hs : a.eval s = v) (hown : w.ownsRow base e size v n xs)
    (ad : Addr) (m c : Nat) (news : List Value) (hx : a.eval x = .slice (some ad) m c) (hl : news.length = m * size) (hnews : ∀ j u, news[j]? = some u → w.cell? (ad.add j) = some u) (h1 : ∀ u ∈ news, u.oneCell' = true)
    (h63 : n + m ≤ maxLen) (hbytes : (n + m) * bytes ≤ 140737488355328) (hbase : base ≤ w.heap.size)
    (h : ∀ v' w', w'.ownsRow base e size v' (n + m) (xs ++ news) → w.grownBy w' v.ownBlock → (v'.ownBlock = v.ownBlock ∨ v'.ownBlock = some w.heap.size) → K (a.put o.dst v') w') :
    o.wp P a w K Q := by
  obtain ⟨v', w', hr, h2, h3, _, h5⟩ := run_append_own_at (P := P) w base t o.type e i z size bytes ht hi hz hsize hby hzs hsz v n xs hown ad m c news hl hnews h1 h63 hbytes hbase
  unfold Oper.wp execOp
  simp only [ho, resolve, invoke, builtin, Sem.run_bind, Sem.run_pure, Result.andThen_ok, List.map_toArray, List.map_cons, List.map_nil, hs, hx, hr]
  exact h v' w' h2 h3 h5
theorem wp_update_back {H : Type} {P : Program} {w : World} {o : Oper} {a : Act} {K : Act → World → Prop} {Q : Exit → Act → World → Prop}
    (m x v : Operand) (t : TypeId) (hop : o.op = Op.mapUpdate t m x v)
    {w0 : World} {k : TypeId} {base : Nat} {e : TypeId} {q : IntKind} {b n : Nat} {D : DataW H} {key : Value} {kl : Lit} {u v' : Value} {zs' : List Int}
    (hback : w0.groupBack P t k base e q b n D key kl u) (hm : a.eval m = .map (some b)) (hx : a.eval x = key) (hv : a.eval v = v')
    (hgr : w0.grownBy w u.ownBlock) (hown' : w.ownsInts base e q v' zs') (hl' : zs'.length ≤ n + 1) (hloc : v'.ownBlock = u.ownBlock ∨ ∃ g, v'.ownBlock = some g ∧ w0.heap.size ≤ g)
    (hK : ∀ w2, w2.ownsGroups P k base e q b (n + 1) (D.put kl (rowDatum q v' zs')) → w.grownBy w2 (some b) → K (a.put o.dst undef) w2) :
    o.wp P a w K Q := by
  obtain ⟨w2, hrun, r1, r2⟩ := hback w v' zs' hgr hown' hl' hloc
  unfold Oper.wp
  simp [execOp, hop, hm, hx, hv, hrun, Result.andThen]
  exact hK w2 r1 r2
theorem lt_of_heap {w : World} {n : Nat} {o : Obj} (h : w.heap[n]? = some o) : n < w.heap.size := by
  rcases Nat.lt_or_ge n w.heap.size with h' | h'
  · exact h'
  · simp [Array.getElem?_eq_none h'] at h
theorem idx_end {H : Type} {B : List UInt8} {i : Nat} {D : DataW H} {zs : List Int} {w1 : World} {b : Nat} {e : TypeId} {v' : Value} (hP : PlD B i D) (hzs : zs = (pl B ((B.drop i).take 8) i).map Int.ofNat) (ho : w1.ownsInts b e .i64 v' (zs ++ [(i : Int)])) :
    PlD B (i + 1) (D.put (.string ((B.drop i).take 8)) (rowDatum .i64 v' (zs ++ [(i : Int)]))) := by
  rw [ho.datum_pos (by simp), hzs]
  exact PlD_step hP
theorem cellx {w : World} {n mb : Nat} {base : ByteArray} (h : w.heap[n]? = some (.cells #[.string base, .map (some mb)] 37 (0, 0))) : w.cell? ⟨n, 1, none⟩ = some (.map (some mb)) := by rw [Lib.cell_of_heap h]; rfl
theorem groups_grow {H : Type} {w w' : World} {B b n : Nat} {D : DataW H} (h : w.ownsGroups Try.prog 9 B 3 .i64 b n D) (hg : w.grownBy w' none) : w'.ownsGroups Try.prog 9 B 3 .i64 b n D :=
  h.kept hg (by simp) (fun es clock hb x hx => by cases x.val.ownBlock <;> simp)
theorem blocks3 (w : World) (o0 o1 o2 : Obj) :
    (((w.alloc o0).alloc o1).alloc o2).heap[w.heap.size]? = some o0 ∧ (((w.alloc o0).alloc o1).alloc o2).heap[w.heap.size + 1]? = some o1 ∧ (((w.alloc o0).alloc o1).alloc o2).heap[w.heap.size + 1 + 1]? = some o2 := by
  have s1 : (w.alloc o0).heap.size = w.heap.size + 1 := by simp
  have s2 : ((w.alloc o0).alloc o1).heap.size = w.heap.size + 1 + 1 := by simp
  have n0 := (MapKept.heap_alloc w o0).1
  have n1 := (MapKept.heap_alloc (w.alloc o0) o1).1
  have n2 := (MapKept.heap_alloc ((w.alloc o0).alloc o1) o2).1
  rw [s1] at n1
  rw [s2] at n2
  refine ⟨?_, ?_, n2⟩
  · rw [Lib.alloc_old _ _ _ (by omega), Lib.alloc_old _ _ _ (by omega)]; exact n0
  · rw [Lib.alloc_old _ _ _ (by omega)]; exact n1
set_option maxRecDepth 100000 in
set_option maxHeartbeats 2000000 in
theorem indexed_any {H : Type} (base : ByteArray) (hb : base.size ≤ 1000000) (w : World) :
    Calls Try.prog 14 #[.string base] w fun e w' => ∃ (m : Nat) (bm B : Nat) (D : DataW H), e = .returned (.agg #[.string base, .map (some bm)]) ∧ (base.size < m + 8 ∧ m ≤ base.size) ∧ PlD base.data.toList m D ∧ w'.ownsGroups Try.prog 9 B 3 .i64 bm m D ∧ Below w.heap.size w w' := by
  have hmm := @run_makeMap Try.prog
  obtain ⟨i0, hi, hz0, hz1, hz2⟩ := info_parts placesElem
  obtain ⟨m, hm⟩ : ∃ m, m = base.size - 7 := ⟨_, rfl⟩
  have hm1 : m ≤ base.size := by omega
  have hm2 : base.size < m + 8 := by omega
  have hm3 : m = 0 ∨ m + 7 = base.size := by omega
  have hmx : max (0 : Int) ((base.size : Int) - 8 + 1) = (m : Int) := by omega
  clear hm
  have HS := Lib.hid (World.ownsGroups_made (H := H) (w.alloc (.cells #[.string ⟨#[]⟩, .map none] 37)) Try.prog 9 3 .i64)
  have HK := Lib.hid (blocks3 w (.cells #[.string ⟨#[]⟩, .map none] 37) (.map #[] 0) (.cells #[.string base, .map (some (w.heap.size + 1))] 37))
  go_enter Try.func14, Try.ntmps14
  go_wp2_with fail
  have e1 : ∀ o, (w.alloc o).heap.size = w.heap.size + 1 := fun o => by simp
  go_loopw [14] (fun v14 wr => ∃ (i : Nat) (D : DataW H), v14 = .int .i64 (i : Nat) ∧ i ≤ m ∧ PlD base.data.toList i D ∧ wr.ownsGroups Try.prog 9 (w.heap.size + 1 + 1) 3 .i64 (w.heap.size + 1) i D ∧
      Hid (wr.heap[w.heap.size]? = some (.cells #[.string ⟨#[]⟩, .map none] 37 (0, 0)) ∧ wr.heap[w.heap.size + 1 + 1]? = some (.cells #[.string base, .map (some (w.heap.size + 1))] 37 (0, 0))) ∧ Hid (Below w.heap.size w wr) ∧ w.heap.size + 1 + 1 ≤ wr.heap.size) (fun v14 _ => m - (intOf v14).toNat)
  case atStart =>
    refine ⟨0, .map [], rfl, Nat.zero_le _, PlD_start _, ?_, ⟨HK.out.1, HK.out.2.2⟩, Lib.hid ((((Below.refl _ _).alloc (Nat.le_refl _) _).alloc (by simp) _).alloc (by simp; omega) _), by simp⟩
    have h := HS.out
    rw [e1] at h
    exact groups_grow h (World.grownBy_alloc _ _ _)
  case round =>
    clear HS HK e1
    obtain ⟨i, D, rfl, hi1, hP, hown, HX, HB, hws⟩ := hrel
    have hkey := key_mk base i
    have hxc := Lib.cell_of_heap HX.out.2 1
    have x1 : wr.cell? ⟨w.heap.size + 1 + 1, 1, none⟩ = some (.map (some (w.heap.size + 1))) := by rw [Lib.cell_of_heap HX.out.2]; rfl
    by_cases hlt : i < m
    · have hlt' : (i : Int) < (m : Int) := by omega
      have h8 : i + 8 ≤ base.size := by omega
      have h8' : (i : Int) + 8 ≤ (base.size : Int) := by omega
      have hownd : wr.drew.ownsGroups Try.prog 9 (w.heap.size + 1 + 1) 3 .i64 (w.heap.size + 1) i D := hown
      obtain ⟨v, zs, hrun, hat, hoi, hzl, hback⟩ := hownd.at strLaw Try.underlying35 (placesZero _) (by unfold maxLen; omega) hkey
      have hzs := PlD_at hP hoi hat
      go_wp2_with fail
      refine wp_region_held_drew (S := fun w' => w'.heap[w.heap.size + 1 + 1]? = some (.cells #[.string base, .map (some (w.heap.size + 1))] 37 (0, 0))) (by kernel_rfl) HX.out.2 (fun hHeld => ?_)
      refine' wpAnyH_take (i := 0) (v := ?v1) rfl (by kernel_rfl) (by kernel_rfl) (by kernel_rfl) (fun _ _ _ h => h) (Or.inl ⟨by kernel_rfl, ?hy1⟩) (by assumption) ?rest1
      case hy1 => (intro w hSw; (try dsimp only at hSw); go_simp; try with_reducible rfl)
      try simp only [Act.put, List.setIfInBounds_toArray, List.set_cons_zero, List.set_cons_succ]
      refine wpAnyH_take (i := 1) (v := (.map (some (w.heap.size + 1)))) rfl (by kernel_rfl) (by kernel_rfl) (by kernel_rfl) (fun _ _ _ h => h) (Or.inl ⟨by kernel_rfl, ?_⟩) hHeld ?_
      · intro w hSw
        have hh := (cellx hSw)
        go_simp
      try simp only [Act.put, List.setIfInBounds_toArray, List.set_cons_zero, List.set_cons_succ]
      refine' wpAnyH_take (i := 2) (v := ?v2) rfl (by kernel_rfl) (by kernel_rfl) (by kernel_rfl) (fun _ _ _ h => h) (Or.inl ⟨by kernel_rfl, ?hy2⟩) (by assumption) ?rest2
      case hy2 => (intro w hSw; (try dsimp only at hSw); go_simp; try with_reducible rfl)
      try simp only [Act.put, List.setIfInBounds_toArray, List.set_cons_zero, List.set_cons_succ]
      refine' wpAnyH_take (i := 3) (v := ?v3) rfl (by kernel_rfl) (by kernel_rfl) (by kernel_rfl) (fun _ _ _ h => h) (Or.inl ⟨by kernel_rfl, ?hy3⟩) (by assumption) ?rest3
      case hy3 => (intro w hSw; (try dsimp only at hSw); go_simp; try with_reducible rfl)
      try simp only [Act.put, List.setIfInBounds_toArray, List.set_cons_zero, List.set_cons_succ]
      refine wpAnyH_take (i := 4) (v := (.map (some (w.heap.size + 1)))) rfl (by kernel_rfl) (by kernel_rfl) (by kernel_rfl) (fun _ _ _ h => h) (Or.inl ⟨by kernel_rfl, ?_⟩) hHeld ?_
      · intro w hSw
        have hh := (cellx hSw)
        go_simp
      try simp only [Act.put, List.setIfInBounds_toArray, List.set_cons_zero, List.set_cons_succ]
      refine' wpAnyH_take (i := 5) (v := ?v4) rfl (by kernel_rfl) (by kernel_rfl) (by kernel_rfl) (fun _ _ _ h => h) (Or.inl ⟨by kernel_rfl, ?hy4⟩) (by assumption) ?rest4
      case hy4 => (intro w hSw; (try dsimp only at hSw); go_simp; try with_reducible rfl)
      try simp only [Act.put, List.setIfInBounds_toArray, List.set_cons_zero, List.set_cons_succ]
      refine' wpAnyH_take (i := 7) (v := ?v5) rfl (by kernel_rfl) (by kernel_rfl) (by kernel_rfl) (fun _ _ _ h => h) (Or.inl ⟨by kernel_rfl, ?hy5⟩) (by assumption) ?rest5
      case hy5 => (intro w hSw; (try dsimp only at hSw); go_simp; try with_reducible rfl)
      try simp only [Act.put, List.setIfInBounds_toArray, List.set_cons_zero, List.set_cons_succ]
      have hHeldB : (wr.drew.alloc (.cells #[.int .i64 (i : Nat)] 3)).heap[w.heap.size + 1 + 1]? = some (.cells #[.string base, .map (some (w.heap.size + 1))] 37 (0, 0)) := (Lib.alloc_old _ _ _ (lt_of_heap hHeld)).trans hHeld
      refine wpAnyH_ready (rs := [6, 8]) (by kernel_rfl) (by simp) ?_
      refine AllReadyH.cons rfl (fun K hK => ?_) (AllReadyH.cons rfl (fun K hK => ?_) AllReadyH.nil)
      · rw [if_pos (by kernel_rfl)]
        unfold Oper.wp
        go_simp
        refine hK.out _ _ hHeld (fun hHeld => ?_)
        clear hK K
        try simp only [Act.put, List.setIfInBounds_toArray, List.set_cons_zero, List.set_cons_succ]
        refine one_val 8 { dst := some 30, op := Op.buildSlice 76 1 #[(0, .tmp 29)], type := 76, pos := "delta.go:29", after := #[{ on := 7, ground := Ground.data }], guard := none } (by kernel_rfl) rfl (by kernel_rfl) (.slice (some ⟨wr.drew.heap.size, 0, none⟩) 1 1) (wr.drew.alloc (.cells #[.int .i64 (i : Nat)] 3)) (by go_simp) hHeldB ?_
        try simp only [Act.put, List.setIfInBounds_toArray, List.set_cons_zero, List.set_cons_succ]
        refine one_ready 9 { dst := some 31, op := Op.call { callee := Callee.builtin Builtin.append, args := #[.tmp 28, .tmp 30], argTypes := #[76, 76] }, type := 76, pos := "delta.go:29", after := #[{ on := 6, ground := Ground.data }, { on := 8, ground := Ground.data }], guard := none } (by kernel_rfl) rfl (by kernel_rfl) (fun K hK => wp_append_at (.tmp 28) (.tmp 30) 76 rfl (w.heap.size + 1 + 1) 3 i0 (.int .i64 0) 1 8 Try.underlying76 hi hz0 hz1 hz2 rfl (by decide) v zs.length (zs.map (Value.int .i64)) (by go_simp) (hoi.1.alloc _) ⟨wr.drew.heap.size, 0, none⟩ 1 1 [.int .i64 (i : Nat)] (by go_simp) rfl (cell_one_new _ _ _) (ints_oneCell .i64 [(i : Int)]) (by unfold maxLen; omega) (by omega) (by show _ ≤ (wr.drew.alloc (.cells #[.int .i64 (i : Nat)] 3)).heap.size; rw [show (wr.drew.alloc (.cells #[.int .i64 (i : Nat)] 3)).heap.size = wr.heap.size + 1 by simp]; omega) (fun v' w1 hown' hgrow hloc => ?_))
        have hX1 := (hgrow.block _ (by rw [show (wr.drew.alloc (.cells #[.int .i64 (i : Nat)] 3)).heap.size = wr.heap.size + 1 by simp]; have := lt_of_heap HX.out.2; omega) (fun e => Lib.ownBlock_ne hoi.1 hHeld (by decide) e.symm)).trans hHeldB
        refine hK.out _ _ hX1 (fun hHeld => ?_)
        clear hK K
        try simp only [Act.put, List.setIfInBounds_toArray, List.set_cons_zero, List.set_cons_succ]
        refine one_ready 10 { dst := none, op := Op.mapUpdate 35 (.tmp 23) (.tmp 24) (.tmp 31), type := 0, pos := "delta.go:29", after := #[{ on := 1, ground := Ground.data }, { on := 2, ground := Ground.data }, { on := 9, ground := Ground.data }, { on := 9, ground := Ground.chain }, { on := 0, ground := Ground.phase }, { on := 1, ground := Ground.phase }, { on := 2, ground := Ground.phase }, { on := 3, ground := Ground.phase }, { on := 4, ground := Ground.phase }, { on := 5, ground := Ground.phase }, { on := 6, ground := Ground.phase }, { on := 7, ground := Ground.phase }, { on := 8, ground := Ground.phase }, { on := 9, ground := Ground.phase }], guard := none } (by kernel_rfl) rfl (by kernel_rfl) (fun K hK => wp_update_back (.tmp 23) (.tmp 24) (.tmp 31) 35 rfl hback (by go_simp) (by go_simp) (by go_simp) ((World.grownBy_alloc _ _ _).trans hgrow) (hoi.appended hown' (WalkArith.wf_i64 (by omega))) (by simp; omega) (hloc.imp id (fun h => ⟨_, h, by first | simp | exact Nat.le_refl _⟩)) (fun w2 hown2 hgrow2 => ?_))
        have hX2 := (hgrow2.block (w.heap.size + 1 + 1) (lt_of_heap hX1) (by simp only [ne_eq, Option.some.injEq]; omega)).trans hX1
        refine hK.out _ _ hX2 (fun hHeld => ?_)
        clear hK K
        try simp only [Act.put, List.setIfInBounds_toArray, List.set_cons_zero, List.set_cons_succ]
        refine wpAnyH_done (by kernel_rfl) ?_ _
        go_wp2_with fail
        have hR0 : w2.heap[w.heap.size]? = some (.cells #[.string ⟨#[]⟩, .map none] 37 (0, 0)) := by
          have q0 : (wr.drew.alloc (.cells #[.int .i64 (i : Nat)] 3)).heap[w.heap.size]? = some (.cells #[.string ⟨#[]⟩, .map none] 37 (0, 0)) := (Lib.alloc_old wr.drew _ _ (lt_of_heap HX.out.1)).trans HX.out.1
          have q1 := (hgrow.block w.heap.size (lt_of_heap q0) (fun e => Lib.ownBlock_ne hoi.1 (show wr.drew.heap[w.heap.size]? = _ from HX.out.1) (by decide) e.symm)).trans q0
          exact (hgrow2.block w.heap.size (lt_of_heap q1) (by simp only [ne_eq, Option.some.injEq]; omega)).trans q1
        have hB2 : Below w.heap.size w w2 := by
          refine HB.out.drew.groups hoi ((World.grownBy_alloc _ _ _).trans hgrow) hgrow2 HB.out.size (by omega) (by omega)
        have hS2 : w.heap.size + 1 + 1 ≤ w2.heap.size := by
          have z1 := hgrow.size
          have z2 := hgrow2.size
          rw [show (wr.drew.alloc (.cells #[.int .i64 (i : Nat)] 3)).heap.size = wr.heap.size + 1 by simp] at z1
          omega
        exact ⟨⟨i + 1, _, by go_num, by omega, idx_end hP hzs (hoi.appended hown' (WalkArith.wf_i64 (by omega))), hown2, Lib.hid ⟨hR0, hX2⟩, Lib.hid hB2, hS2⟩, by simp [intOf]; omega⟩
      · rw [if_pos (by kernel_rfl)]
        unfold Oper.wp
        go_simp
        refine hK.out _ _ hHeldB (fun hHeld => ?_)
        clear hK K hrun hat hoi hzl hback hzs
        try simp only [Act.put, List.setIfInBounds_toArray, List.set_cons_zero, List.set_cons_succ]
        have hownb := groups_grow hownd (World.grownBy_alloc wr.drew (.cells #[.int .i64 (i : Nat)] 3) none)
        obtain ⟨v, zs, hrun, hat, hoi, hzl, hback⟩ := hownb.at strLaw Try.underlying35 (placesZero _) (by unfold maxLen; omega) hkey
        have hzs := PlD_at hP hoi hat
        have hrun' : (Instr.lookup 35 (.map (some (w.heap.size + 1))) (.string (base.extract i (i + 8))) false).run Try.prog (wr.alloc (.cells #[.int .i64 (i : Nat)] 3)).drew = .ok v (wr.alloc (.cells #[.int .i64 (i : Nat)] 3)).drew := hrun
        refine one_val 6 { dst := some 28, op := Op.lookup 35 (.tmp 26) (.tmp 27) false, type := 76, pos := "delta.go:29", after := #[{ on := 4, ground := Ground.data }, { on := 5, ground := Ground.data }], guard := none } (by kernel_rfl) rfl (by kernel_rfl) v (wr.drew.alloc (.cells #[.int .i64 (i : Nat)] 3)) (by go_simp) hHeldB ?_
        try simp only [Act.put, List.setIfInBounds_toArray, List.set_cons_zero, List.set_cons_succ]
        refine one_ready 9 { dst := some 31, op := Op.call { callee := Callee.builtin Builtin.append, args := #[.tmp 28, .tmp 30], argTypes := #[76, 76] }, type := 76, pos := "delta.go:29", after := #[{ on := 6, ground := Ground.data }, { on := 8, ground := Ground.data }], guard := none } (by kernel_rfl) rfl (by kernel_rfl) (fun K hK => wp_append_at (.tmp 28) (.tmp 30) 76 rfl (w.heap.size + 1 + 1) 3 i0 (.int .i64 0) 1 8 Try.underlying76 hi hz0 hz1 hz2 rfl (by decide) v zs.length (zs.map (Value.int .i64)) (by go_simp) hoi.1 ⟨wr.drew.heap.size, 0, none⟩ 1 1 [.int .i64 (i : Nat)] (by go_simp) rfl (cell_one_new _ _ _) (ints_oneCell .i64 [(i : Int)]) (by unfold maxLen; omega) (by omega) (by show _ ≤ (wr.drew.alloc (.cells #[.int .i64 (i : Nat)] 3)).heap.size; rw [show (wr.drew.alloc (.cells #[.int .i64 (i : Nat)] 3)).heap.size = wr.heap.size + 1 by simp]; omega) (fun v' w1 hown' hgrow hloc => ?_))
        have hX1 := (hgrow.block _ (by rw [show (wr.drew.alloc (.cells #[.int .i64 (i : Nat)] 3)).heap.size = wr.heap.size + 1 by simp]; have := lt_of_heap HX.out.2; omega) (fun e => Lib.ownBlock_ne hoi.1 hHeldB (by decide) e.symm)).trans hHeldB
        refine hK.out _ _ hX1 (fun hHeld => ?_)
        clear hK K
        try simp only [Act.put, List.setIfInBounds_toArray, List.set_cons_zero, List.set_cons_succ]
        refine one_ready 10 { dst := none, op := Op.mapUpdate 35 (.tmp 23) (.tmp 24) (.tmp 31), type := 0, pos := "delta.go:29", after := #[{ on := 1, ground := Ground.data }, { on := 2, ground := Ground.data }, { on := 9, ground := Ground.data }, { on := 9, ground := Ground.chain }, { on := 0, ground := Ground.phase }, { on := 1, ground := Ground.phase }, { on := 2, ground := Ground.phase }, { on := 3, ground := Ground.phase }, { on := 4, ground := Ground.phase }, { on := 5, ground := Ground.phase }, { on := 6, ground := Ground.phase }, { on := 7, ground := Ground.phase }, { on := 8, ground := Ground.phase }, { on := 9, ground := Ground.phase }], guard := none } (by kernel_rfl) rfl (by kernel_rfl) (fun K hK => wp_update_back (.tmp 23) (.tmp 24) (.tmp 31) 35 rfl hback (by go_simp) (by go_simp) (by go_simp) hgrow (hoi.appended hown' (WalkArith.wf_i64 (by omega))) (by simp; omega) (hloc.imp id (fun h => ⟨_, h, by first | simp | exact Nat.le_refl _⟩)) (fun w2 hown2 hgrow2 => ?_))
        have hX2 := (hgrow2.block (w.heap.size + 1 + 1) (lt_of_heap hX1) (by simp only [ne_eq, Option.some.injEq]; omega)).trans hX1
        refine hK.out _ _ hX2 (fun hHeld => ?_)
        clear hK K
        try simp only [Act.put, List.setIfInBounds_toArray, List.set_cons_zero, List.set_cons_succ]
        refine wpAnyH_done (by kernel_rfl) ?_ _
        go_wp2_with fail
        have hR0 : w2.heap[w.heap.size]? = some (.cells #[.string ⟨#[]⟩, .map none] 37 (0, 0)) := by
          have q0 : (wr.drew.alloc (.cells #[.int .i64 (i : Nat)] 3)).heap[w.heap.size]? = some (.cells #[.string ⟨#[]⟩, .map none] 37 (0, 0)) := (Lib.alloc_old wr.drew _ _ (lt_of_heap HX.out.1)).trans HX.out.1
          have q1 := (hgrow.block w.heap.size (lt_of_heap q0) (fun e => Lib.ownBlock_ne hoi.1 q0 (by decide) e.symm)).trans q0
          exact (hgrow2.block w.heap.size (lt_of_heap q1) (by simp only [ne_eq, Option.some.injEq]; omega)).trans q1
        have hB2 : Below w.heap.size w w2 := by
          refine (HB.out.drew.alloc HB.out.size (.cells #[.int .i64 (i : Nat)] 3)).groups hoi hgrow hgrow2 (by rw [show (wr.drew.alloc (.cells #[.int .i64 (i : Nat)] 3)).heap.size = wr.heap.size + 1 by simp]; have := HB.out.size; omega) (by omega) (by omega)
        have hS2 : w.heap.size + 1 + 1 ≤ w2.heap.size := by
          have z1 := hgrow.size
          have z2 := hgrow2.size
          rw [show (wr.drew.alloc (.cells #[.int .i64 (i : Nat)] 3)).heap.size = wr.heap.size + 1 by simp] at z1
          omega
        exact ⟨⟨i + 1, _, by go_num, by omega, idx_end hP hzs (hoi.appended hown' (WalkArith.wf_i64 (by omega))), hown2, Lib.hid ⟨hR0, hX2⟩, Lib.hid hB2, hS2⟩, by simp [intOf]; omega⟩
    · have : i = m := by omega
      subst this
      have hlt' : ¬ ((i : Int) < (i : Int)) := by omega
      have x0 : wr.cell? ⟨w.heap.size + 1 + 1, 0, none⟩ = some (.string base) := by rw [Lib.cell_of_heap HX.out.2]; rfl
      have r0 : wr.cell? ⟨w.heap.size, 0, none⟩ = some (.string ⟨#[]⟩) := by rw [Lib.cell_of_heap HX.out.1]; rfl
      have r1 : wr.cell? ⟨w.heap.size, 1, none⟩ = some (.map none) := by rw [Lib.cell_of_heap HX.out.1]; rfl
      have f0 : wr.frozen? ⟨w.heap.size, 0, none⟩ = false := Lib.frozen_of_heap HX.out.1 0
      have f1 : wr.frozen? ⟨w.heap.size, 1, none⟩ = false := Lib.frozen_of_heap HX.out.1 1
      go_wp2_with fail
      refine bodyPost_cell1 (V := .agg #[.string base, .map (some (w.heap.size + 1))]) rfl rfl ?_ rfl ?_
      · go_simp
      · refine ⟨i, _, rfl, ⟨hm2, hm1⟩, w.heap.size + 1 + 1, D, hP, ?_, (HB.out.setCell (p := ⟨w.heap.size, 0, none⟩) (Nat.le_refl _) _).setCell (p := ⟨w.heap.size, 1, none⟩) (Nat.le_refl _) _⟩
        refine (hown.kept (gr_set wr w.heap.size 0 _) (by simp) (hown.rowsAbove (fun j hj => by cases hj; omega))).kept (gr_set _ w.heap.size 1 _) (by simp) (World.ownsGroups.rowsAbove (hown.kept (gr_set wr w.heap.size 0 _) (by simp) (hown.rowsAbove (fun j hj => by cases hj; omega))) (fun j hj => by cases hj; omega))
end Go.Proofs.Ytlkpgefapcfdbaa
