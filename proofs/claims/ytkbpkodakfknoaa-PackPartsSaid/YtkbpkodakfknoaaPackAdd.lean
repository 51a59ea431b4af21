/- siloref17.add: one more slot (walk). -/
import Derived.Test.YtkbpkodakfknoaaPackCmp
import Derived.Maps.AppendAt
namespace Go.Proofs.Ytkbpkodakfknoaa
open Go.RowKit
set_option linter.unusedVariables false
set_option linter.unusedSimpArgs false
theorem wpList_push_slot {w : World} {ops : Array Oper} {rest : List Oper} {o : Oper} {a : Act} {Q : Exit → Act → World → Prop} (hgd : o.guard = none) (s x : Operand) (t : TypeId)
    (ho : o.op = .call { callee := .builtin .append, args := #[s, x], argTypes := #[t, t] }) (ht : Try.prog.underlying t = some (.slice 30))
    (base : Nat) (v : Value) (xs : List Slt) (hs : a.eval s = v) (hown : w.ownsRow base 30 3 v xs.length (slts xs))
    (vb c : Nat) (y : Slt) (hx : a.eval x = .slice (some ⟨vb, 0, none⟩) 1 c) (hc : w.heap[vb]? = some (.cells #[.string y.1, .int .i64 y.2.1, .int .i64 y.2.2] 30 (0, 0))) (hle : xs.length + 1 ≤ 1000000000) (hbase : base ≤ w.heap.size)
    (h : ∀ v' w', w'.ownsRow base 30 3 v' (xs ++ [y]).length (slts (xs ++ [y])) → w.grownBy w' v.ownBlock → wpList Try.prog ops Q rest (a.put o.dst v') w') : wpList Try.prog ops Q (o :: rest) a w := by
  obtain ⟨i0, hi0, hz0, hzs, hzb⟩ := info_parts slotInfo
  refine wpList_append_own w hgd s x t ho base 30 i0 _ 3 32 ht hi0 hz0 hzs hzb rfl (by decide) v _ _ hs hown ⟨vb, 0, none⟩ 1 c (ESlt y) hx (by simp [ESlt]) (fun j u hj => ?_) (fun u hu => by simp [ESlt] at hu; rcases hu with rfl | rfl | rfl <;> rfl) (by unfold maxLen; omega) (by omega) hbase ?_
  · rw [Addr.add_lit]
    simp only [World.cell?, hc]
    simpa [ESlt] using hj
  · intro v' w' h1 h2 _
    refine h v' w' ?_ h2
    rw [slts_append, List.length_append]
    simpa [slts] using h1
theorem below_push {B size n : Nat} {w wr w1 : World} {e : TypeId} {v : Value} {xs : List Value} {o : Obj} (h : Below B w wr) (hB : B ≤ wr.heap.size) (hown : wr.ownsRow B e size v n xs) (g : (wr.alloc o).grownBy w1 v.ownBlock) : Below B w w1 :=
  (h.alloc hB o).grown g (by rw [World.size_alloc]; omega) (fun k hk => (hown.lt k hk).1)
/-- what the loop has built behind j rounds -/
def addU (l : List Slt) (x : Slt) (j : Nat) : List Slt := if j ≤ place l x.1 then l.take j else l.take (place l x.1) ++ (if hasAt l x.1 = true then [] else [x]) ++ (l.drop (place l x.1)).take (j - place l x.1)
theorem addU_zero (l : List Slt) (x : Slt) : addU l x 0 = [] := by simp [addU]
theorem addU_le (l : List Slt) (x : Slt) (j : Nat) (h : j ≤ place l x.1) : addU l x j = l.take j := if_pos h
theorem addU_gt (l : List Slt) (x : Slt) (j : Nat) (h : place l x.1 < j) : addU l x j = l.take (place l x.1) ++ (if hasAt l x.1 = true then [] else [x]) ++ (l.drop (place l x.1)).take (j - place l x.1) := if_neg (by omega)
theorem addU_low (l : List Slt) (x : Slt) (j : Nat) (h : j < l.length) (hp : j < place l x.1) : addU l x (j + 1) = addU l x j ++ [l[j]] := by
  rw [addU_le l x (j + 1) (by omega), addU_le l x j (by omega), List.take_succ_eq_append_getElem h]
theorem addU_at (l : List Slt) (x : Slt) (j : Nat) (h : j < l.length) (hp : j = place l x.1) : addU l x (j + 1) = addU l x j ++ (if hasAt l x.1 = true then [] else [x]) ++ [l[j]] := by
  rw [addU_gt l x (j + 1) (by omega), addU_le l x j (by omega), ← hp, show j + 1 - j = 1 by omega, List.drop_eq_getElem_cons h]
  rfl
theorem addU_high (l : List Slt) (x : Slt) (j : Nat) (h : j < l.length) (hp : place l x.1 < j) : addU l x (j + 1) = addU l x j ++ [l[j]] := by
  rw [addU_gt l x (j + 1) (by omega), addU_gt l x j hp, show j + 1 - place l x.1 = (j - place l x.1) + 1 by omega, List.take_succ_eq_append_getElem (by rw [List.length_drop]; omega), ← List.append_assoc, List.getElem_drop]
  congr 3
  omega
theorem addU_len (l : List Slt) (x : Slt) (j : Nat) (h : j ≤ l.length) : (addU l x j).length ≤ j + 1 := by
  rcases Nat.lt_or_ge (place l x.1) j with hp | hp
  · rw [addU_gt l x j hp]
    split
    · simp; omega
    · simp; omega
  · rw [addU_le l x j hp]; simp; omega
theorem addU_full (l : List Slt) (x : Slt) (h : place l x.1 < l.length) : addU l x l.length = addS l x := by
  rw [addU_gt l x l.length h, List.take_of_length_le (l := l.drop (place l x.1)) (by simp)]
  unfold addS
  split
  · simp
  · rfl
theorem addU_end (l : List Slt) (x : Slt) (h : place l x.1 = l.length) : addU l x l.length = l ∧ addS l x = l ++ [x] := by
  have hh : hasAt l x.1 = false := by
    unfold hasAt; rw [h, List.getElem?_eq_none (Nat.le_refl _)]
  rw [addU_le l x l.length (by omega)]
  unfold addS
  rw [hh, if_neg (by decide), h]
  simp
set_option maxRecDepth 20000 in
set_option maxHeartbeats 2000000 in
theorem add_any (v : Value) (l : List Slt) (x : Slt) (w : World) (hv : SlotsB w v l) (hr : RisS l) (hl : l.length ≤ 100000000) :
    Calls Try.prog 30 #[v, .agg #[.string x.1, .int .i64 x.2.1, .int .i64 x.2.2]] w fun e w' => ∃ v', e = .returned v' ∧ SlotsB w' v' (addS l x) ∧ Below w.heap.size w w' := by
  have HP := Lib.hid (place_lt l x.1 hr)
  have hpl := place_le l x.1
  obtain ⟨A, c, rfl, h2, h3, h4⟩ := hv
  have hc9 : c ≤ 9223372036854775807 := by unfold maxLen at h3; omega
  obtain ⟨b, off, hb⟩ : ∃ b off, 0 < l.length → A = some ⟨b, off, none⟩ ∧ b < w.heap.size ∧ ∀ i (h : i < l.length), w.cell? ⟨b, off + i * 3, none⟩ = some (.string l[i].1) ∧ w.cell? ⟨b, off + i * 3 + 1, none⟩ = some (.int .i64 l[i].2.1) ∧ w.cell? ⟨b, off + i * 3 + 2, none⟩ = some (.int .i64 l[i].2.2) := by
    by_cases h0 : 0 < l.length
    · obtain ⟨b, off, h⟩ := h4 h0; exact ⟨b, off, fun _ => h⟩
    · exact ⟨0, 0, fun h => absurd h h0⟩
  have HB := Lib.hid hb
  obtain ⟨p, hp⟩ : ∃ p, p = place l x.1 := ⟨_, rfl⟩
  have HPE := Lib.hid hp
  rw [← hp] at hpl HP
  obtain ⟨n, hn⟩ : ∃ n, n = l.length := ⟨_, rfl⟩
  have HN := Lib.hid hn
  rw [← hn] at hpl hl h2 ⊢
  clear hp hb h3 h4 hr hn
  -- the box of x
  have q1 := heap_alloc_new w (.cells #[.string x.1, .int .i64 x.2.1, .int .i64 x.2.2] 30)
  obtain ⟨wp, hwp⟩ : ∃ wp, wp = w.alloc (.cells #[.string x.1, .int .i64 x.2.1, .int .i64 x.2.2] 30) := ⟨_, rfl⟩
  have HWP : Hid (w.alloc (.cells #[.string x.1, .int .i64 x.2.1, .int .i64 x.2.2] 30) = wp) := hwp.symm
  rw [← hwp] at q1
  have HQ1 := Lib.hid q1
  have HBp : Hid (Below w.heap.size w wp) := by unfold Hid; rw [hwp]; exact (Below.refl _ _).alloc (Nat.le_refl _) _
  have hsp : wp.heap.size = w.heap.size + 1 := by rw [hwp]; simp
  have HSP := Lib.hid hsp
  clear hwp q1 hsp
  go_enter Try.func30, Try.ntmps30
  go_wp2_with fail
  rw [HWP.out]
  go_loopw [5, 6, 7] (fun o d i wr => ∃ j : Nat, j ≤ n ∧ i = .int .i64 j ∧ d = .bool (decide (p < j)) ∧ Hid (wr.ownsRow wp.heap.size 30 3 o (addU l x j).length (slts (addU l x j))) ∧ Hid (Below wp.heap.size wp wr)) (fun _ _ i _ => n - (intOf i).toNat)
  case atStart => exact ⟨0, Nat.zero_le _, rfl, by simp, by rw [addU_zero]; exact World.ownsRow_nil _ _ _ _, Below.refl _ _⟩
  case round =>
    obtain ⟨j, hj, rfl, rfl, HO, HBr⟩ := hrel
    by_cases hlt : j < n
    · have hlt' : (j : Int) < (n : Int) := by omega
      have hnn := HN.out
      obtain ⟨rfl, hblt, hcells⟩ := HB.out (by omega)
      have hml : j < l.length := by omega
      obtain ⟨x1, x2, x3⟩ := hcells j hml
      have hpb : ∀ o, wr.cell? ⟨b, o, none⟩ = w.cell? ⟨b, o, none⟩ := fun o => (HBr.out.cell (p := ⟨b, o, none⟩) (by have := HSP.out; dsimp only; omega)).trans (HBp.out.cell (p := ⟨b, o, none⟩) hblt)
      have y1 := (hpb _).trans x1
      have y2 := (hpb _).trans x2
      have y3 := (hpb _).trans x3
      have hB3 := (HBr.out.block w.heap.size (by have := HSP.out; omega)).trans HQ1.out
      have z0 : wr.cell? ⟨w.heap.size, 0, none⟩ = some (.string x.1) := by unfold World.cell?; simp [hB3]
      have z1 : wr.cell? ⟨w.heap.size, 1, none⟩ = some (.int .i64 x.2.1) := by unfold World.cell?; simp [hB3]
      have z2 : wr.cell? ⟨w.heap.size, 2, none⟩ = some (.int .i64 x.2.2) := by unfold World.cell?; simp [hB3]
      have hpm := HP.out j hml
      have HL := Lib.hid (addU_low l x j hml)
      have HA := Lib.hid (addU_at l x j hml)
      have HH := Lib.hid (addU_high l x j hml)
      rw [← HPE.out] at HL HA HH
      have HUL := Lib.hid (addU_len l x j (by omega))
      have HQE : Hid (j = p → hasAt l x.1 = decide (l[j].1 = x.1)) := by
        intro e
        unfold hasAt; rw [← HPE.out, ← e, List.getElem?_eq_getElem hml]
      generalize l[j] = y at *
      generalize addU l x j = U at *
      clear hcells hpb x1 x2 x3 hB3 hnn
      by_cases hlow : j < p
      · have dne : decide (p < j) = false := by simp; omega
        have hge : Op.bytesLess y.1.toList x.1.toList = true := by rw [toList_data, toList_data]; show bl y.1 x.1 = true; rw [hpm]; simpa using hlow
        clear hpm
        go_wp2_with fail
        go_quiet (fail)
        have HL2 := Lib.hid (HL.out hlow)
        clear HL HA HH HQE HP
        go_wp2_with (at_builtin; refine wpList_push_slot rfl _ _ _ rfl Try.underlying26 wp.heap.size _ (U) rfl ((show (wr.drewN nq).ownsRow wp.heap.size 30 3 _ _ _ from HO.out).alloc _) _ 1 y rfl (heap_alloc_new _ _) (by have := HUL.out; (try simp only [List.length_append, List.length_singleton]); omega) (by have := ((Below.drewN HBr.out nq)).size; rw [World.size_alloc]; omega) ?_)
        intro v1 w1 o1 g1
        have HB1 := Lib.hid (below_push (Below.drewN HBr.out nq) ((Below.drewN HBr.out nq)).size ((show (wr.drewN nq).ownsRow wp.heap.size 30 3 _ _ _ from HO.out)) g1)
        have HO1 := Lib.hid o1
        obtain ⟨gg, cc, rfl⟩ : ∃ gg cc, v1 = .slice (some ⟨gg, 0, none⟩) (U.length + 1) cc := by
          rcases o1.2 with ⟨_, h0⟩ | ⟨gg, cc, _, e, _⟩
          · simp at h0
          · exact ⟨gg, cc, e⟩
        clear o1 g1
        go_wp2_with fail
        go_roundw
        case rel => exact ⟨j + 1, by omega, by go_num, by simp; omega, by unfold Hid; rw [HL2.out, List.length_append]; exact HO1.out, HB1⟩
        case measure => simp [intOf]; omega
      · by_cases hat : j = p
        · have dne : decide (p < j) = false := by simp; omega
          have hge : Op.bytesLess y.1.toList x.1.toList = false := by rw [toList_data, toList_data]; show bl y.1 x.1 = false; rw [hpm]; simpa using hlow
          have HQ2 := Lib.hid (HQE.out hat)
          have HA2 := Lib.hid (HA.out hat)
          have hat1 : p ≤ j := by omega
          have hat2 : j ≤ p := by omega
          clear hat hpm HL HA HH HQE HP
          by_cases heq : y.1 = x.1
          · have hha : hasAt l x.1 = true := by rw [HQ2.out]; simpa using heq
            rw [hha, if_pos rfl, List.append_nil] at HA2
            have hne : (y.1.toList == x.1.toList) = true := by rw [heq]; simp
            clear heq hha HQ2
            go_wp2_with fail
            go_quiet (fail)
            go_wp2_with fail
            go_quiet (fail)
            generalize hwd : (wr.drewN _).drewN nq = wd
            have HOd : Hid (wd.ownsRow wp.heap.size 30 3 u5 U.length (slts U)) := by unfold Hid; rw [← hwd]; exact HO.out
            have HBd : Hid (Below wp.heap.size wp wd) := by unfold Hid; rw [← hwd]; exact Below.drewN (Below.drewN HBr.out _) _
            have a1 : wd.cell? ⟨b, off + j * 3, none⟩ = some (.string y.1) := by rw [← hwd]; exact y1
            have a2 : wd.cell? ⟨b, off + j * 3 + 1, none⟩ = some (.int .i64 y.2.1) := by rw [← hwd]; exact y2
            have a3 : wd.cell? ⟨b, off + j * 3 + 2, none⟩ = some (.int .i64 y.2.2) := by rw [← hwd]; exact y3
            have e0 : wd.cell? ⟨w.heap.size, 0, none⟩ = some (.string x.1) := by rw [← hwd]; exact z0
            have e1 : wd.cell? ⟨w.heap.size, 1, none⟩ = some (.int .i64 x.2.1) := by rw [← hwd]; exact z1
            have e2 : wd.cell? ⟨w.heap.size, 2, none⟩ = some (.int .i64 x.2.2) := by rw [← hwd]; exact z2
            clear hwd y1 y2 y3 z0 z1 z2 HO HBr
            go_wp2_with (at_builtin; refine wpList_push_slot rfl _ _ _ rfl Try.underlying26 wp.heap.size _ (U) rfl (HOd.out.alloc _) _ 1 y rfl (heap_alloc_new _ _) (by have := HUL.out; (try simp only [List.length_append, List.length_singleton]); omega) (by have := (HBd.out).size; rw [World.size_alloc]; omega) ?_)
            intro v1 w1 o1 g1
            have HB1 := Lib.hid (below_push HBd.out (HBd.out).size (HOd.out) g1)
            have HO1 := Lib.hid o1
            obtain ⟨gg, cc, rfl⟩ : ∃ gg cc, v1 = .slice (some ⟨gg, 0, none⟩) (U.length + 1) cc := by
              rcases o1.2 with ⟨_, h0⟩ | ⟨gg, cc, _, e, _⟩
              · simp at h0
              · exact ⟨gg, cc, e⟩
            clear o1 g1
            go_wp2_with fail
            go_roundw
            case rel => exact ⟨j + 1, by omega, by go_num, by simp; omega, by unfold Hid; rw [HA2.out, List.length_append]; exact HO1.out, HB1⟩
            case measure => simp [intOf]; omega
          · have hha : hasAt l x.1 = false := by rw [HQ2.out]; simpa using heq
            rw [hha, if_neg (by decide)] at HA2
            have hne : (y.1.toList == x.1.toList) = false := by
              rw [beq_eq_false_iff_ne, toList_data, toList_data]
              exact fun e => heq (ByteArray.ext (Array.toList_inj.1 e))
            clear heq hha HQ2
            go_wp2_with fail
            go_quiet (fail)
            go_wp2_with fail
            go_quiet (fail)
            generalize hwd : (wr.drewN _).drewN nq = wd
            have HOd : Hid (wd.ownsRow wp.heap.size 30 3 u5 U.length (slts U)) := by unfold Hid; rw [← hwd]; exact HO.out
            have HBd : Hid (Below wp.heap.size wp wd) := by unfold Hid; rw [← hwd]; exact Below.drewN (Below.drewN HBr.out _) _
            have a1 : wd.cell? ⟨b, off + j * 3, none⟩ = some (.string y.1) := by rw [← hwd]; exact y1
            have a2 : wd.cell? ⟨b, off + j * 3 + 1, none⟩ = some (.int .i64 y.2.1) := by rw [← hwd]; exact y2
            have a3 : wd.cell? ⟨b, off + j * 3 + 2, none⟩ = some (.int .i64 y.2.2) := by rw [← hwd]; exact y3
            have e0 : wd.cell? ⟨w.heap.size, 0, none⟩ = some (.string x.1) := by rw [← hwd]; exact z0
            have e1 : wd.cell? ⟨w.heap.size, 1, none⟩ = some (.int .i64 x.2.1) := by rw [← hwd]; exact z1
            have e2 : wd.cell? ⟨w.heap.size, 2, none⟩ = some (.int .i64 x.2.2) := by rw [← hwd]; exact z2
            clear hwd y1 y2 y3 z0 z1 z2 HO HBr
            go_wp2_with (at_builtin; refine wpList_push_slot rfl _ _ _ rfl Try.underlying26 wp.heap.size _ (U) rfl (HOd.out.alloc _) _ 1 x rfl (heap_alloc_new _ _) (by have := HUL.out; (try simp only [List.length_append, List.length_singleton]); omega) (by have := (HBd.out).size; rw [World.size_alloc]; omega) ?_)
            intro v1 w1 o1 g1
            have HB1 := Lib.hid (below_push HBd.out (HBd.out).size (HOd.out) g1)
            have HO1 := Lib.hid o1
            obtain ⟨gg, cc, rfl⟩ : ∃ gg cc, v1 = .slice (some ⟨gg, 0, none⟩) (U.length + 1) cc := by
              rcases o1.2 with ⟨_, h0⟩ | ⟨gg, cc, _, e, _⟩
              · simp at h0
              · exact ⟨gg, cc, e⟩
            clear o1 g1
            have hz1 : wp.heap.size ≤ w1.heap.size := HB1.out.size
            have hpb : ∀ o, w1.cell? ⟨b, o, none⟩ = wd.cell? ⟨b, o, none⟩ := fun o => (HB1.out.cell (p := ⟨b, o, none⟩) (by have := HSP.out; dsimp only; omega)).trans (HBd.out.cell (p := ⟨b, o, none⟩) (by have := HSP.out; dsimp only; omega)).symm
            have f1 := (hpb _).trans a1
            have f2 := (hpb _).trans a2
            have f3 := (hpb _).trans a3
            have HO1' : Hid (w1.ownsRow wp.heap.size 30 3 (.slice (some ⟨gg, 0, none⟩) (U.length + 1) cc) (U ++ [x]).length (slts (U ++ [x]))) := by unfold Hid; rw [List.length_append]; exact HO1.out
            clear hpb a1 a2 a3 e0 e1 e2 HOd HBd HO1
            go_wp2_with (at_builtin; refine wpList_push_slot rfl _ _ _ rfl Try.underlying26 wp.heap.size _ (U ++ [x]) rfl (HO1'.out.alloc _) _ 1 y rfl (heap_alloc_new _ _) (by have := HUL.out; (try simp only [List.length_append, List.length_singleton]); omega) (by have := (HB1.out).size; rw [World.size_alloc]; omega) ?_)
            intro v2 w2 o2 g2
            have HB2 := Lib.hid (below_push HB1.out (HB1.out).size (HO1'.out) g2)
            have HO2 := Lib.hid o2
            obtain ⟨gg2, cc2, rfl⟩ : ∃ gg2 cc2, v2 = .slice (some ⟨gg2, 0, none⟩) (U.length + 1 + 1) cc2 := by
              rcases o2.2 with ⟨_, h0⟩ | ⟨gg, cc, _, e, _⟩
              · simp at h0
              · exact ⟨gg, cc, e⟩
            clear o2 g2
            go_wp2_with fail
            go_roundw
            case rel => exact ⟨j + 1, by omega, by go_num, by simp; omega, by unfold Hid; rw [HA2.out]; have := HO2.out; simpa using this, HB2⟩
            case measure => simp [intOf]; omega
        · have dne : decide (p < j) = true := by simp; omega
          have HH2 := Lib.hid (HH.out (by omega))
          clear hpm HL HA HH HQE HP
          go_wp2_with fail
          go_quiet (fail)
          generalize hwd : wr.drewN nq = wd
          have HOd : Hid (wd.ownsRow wp.heap.size 30 3 u5 U.length (slts U)) := by unfold Hid; rw [← hwd]; exact HO.out
          have HBd : Hid (Below wp.heap.size wp wd) := by unfold Hid; rw [← hwd]; exact Below.drewN HBr.out _
          have a1 : wd.cell? ⟨b, off + j * 3, none⟩ = some (.string y.1) := by rw [← hwd]; exact y1
          have a2 : wd.cell? ⟨b, off + j * 3 + 1, none⟩ = some (.int .i64 y.2.1) := by rw [← hwd]; exact y2
          have a3 : wd.cell? ⟨b, off + j * 3 + 2, none⟩ = some (.int .i64 y.2.2) := by rw [← hwd]; exact y3
          have e0 : wd.cell? ⟨w.heap.size, 0, none⟩ = some (.string x.1) := by rw [← hwd]; exact z0
          have e1 : wd.cell? ⟨w.heap.size, 1, none⟩ = some (.int .i64 x.2.1) := by rw [← hwd]; exact z1
          have e2 : wd.cell? ⟨w.heap.size, 2, none⟩ = some (.int .i64 x.2.2) := by rw [← hwd]; exact z2
          clear hwd y1 y2 y3 z0 z1 z2 HO HBr
          go_wp2_with (at_builtin; refine wpList_push_slot rfl _ _ _ rfl Try.underlying26 wp.heap.size _ (U) rfl (HOd.out.alloc _) _ 1 y rfl (heap_alloc_new _ _) (by have := HUL.out; (try simp only [List.length_append, List.length_singleton]); omega) (by have := (HBd.out).size; rw [World.size_alloc]; omega) ?_)
          intro v1 w1 o1 g1
          have HB1 := Lib.hid (below_push HBd.out (HBd.out).size (HOd.out) g1)
          have HO1 := Lib.hid o1
          obtain ⟨gg, cc, rfl⟩ : ∃ gg cc, v1 = .slice (some ⟨gg, 0, none⟩) (U.length + 1) cc := by
            rcases o1.2 with ⟨_, h0⟩ | ⟨gg, cc, _, e, _⟩
            · simp at h0
            · exact ⟨gg, cc, e⟩
          clear o1 g1
          go_wp2_with fail
          go_roundw
          case rel => exact ⟨j + 1, by omega, by go_num, by simp; omega, by unfold Hid; rw [HH2.out, List.length_append]; exact HO1.out, HB1⟩
          case measure => simp [intOf]; omega
    · obtain rfl : j = n := by omega
      have hnn := HN.out
      have HUL := Lib.hid (addU_len l x l.length (Nat.le_refl _))
      have HBF := Lib.hid (HBp.out.trans (HBr.out.mono HBp.out.size))
      rw [hnn] at HO
      by_cases hpn : p = j
      · obtain ⟨h1, h2⟩ := addU_end l x (by rw [← HPE.out, hpn, hnn])
        rw [h1] at HO
        have HAE := Lib.hid h2
        have dne : decide (p < j) = false := by simp; omega
        have hB3 := (HBr.out.block w.heap.size (by have := HSP.out; omega)).trans HQ1.out
        have z0 : wr.cell? ⟨w.heap.size, 0, none⟩ = some (.string x.1) := by unfold World.cell?; simp [hB3]
        have z1 : wr.cell? ⟨w.heap.size, 1, none⟩ = some (.int .i64 x.2.1) := by unfold World.cell?; simp [hB3]
        have z2 : wr.cell? ⟨w.heap.size, 2, none⟩ = some (.int .i64 x.2.2) := by unfold World.cell?; simp [hB3]
        have hll : l.length + 1 ≤ 1000000000 := by omega
        have HLL := Lib.hid hll
        clear h1 h2 hpn hB3 hnn hll
        go_wp2_with (at_builtin; refine wpList_push_slot rfl _ _ _ rfl Try.underlying26 wp.heap.size _ l rfl (HO.out.alloc _) _ 1 x rfl (heap_alloc_new _ _) HLL.out (by have := HBr.out.size; rw [World.size_alloc]; omega) ?_)
        intro v1 w1 o1 g1
        have HB1 := Lib.hid (below_push HBr.out HBr.out.size HO.out g1)
        have HO1 := Lib.hid o1
        clear o1 g1
        go_wp2_with fail
        go_ret
        refine ⟨_, rfl, SlotsB.of_owns (B := wp.heap.size) (by rw [HAE.out, List.length_append]; exact HO1.out), HBp.out.trans (HB1.out.mono HBp.out.size)⟩
      · have h1 := addU_full l x (by rw [← HPE.out, ← hnn]; omega)
        rw [h1] at HO
        have dne : decide (p < j) = true := by simp; omega
        clear h1 hpn hnn
        go_wp2_with fail
        go_ret
        exact ⟨_, rfl, SlotsB.of_owns HO.out, HBF.out⟩
end Go.Proofs.Ytkbpkodakfknoaa
