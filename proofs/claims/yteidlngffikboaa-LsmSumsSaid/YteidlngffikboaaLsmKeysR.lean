/- siloref05.Has, add, Of: walks. (cut from KeysRefHas, KeysRefSets by gen-lsm-keys.py) -/
import Derived.Test.YteidlngffikboaaStrsPush
import Derived.Test.YteidlngffikboaaLsmKeysP
import Derived.WalkLawsBesides
import Derived.Deep.QuietTactic
import Derived.BigQuiet
namespace Go.Proofs.Yteidlngffikboaa
open Go.RowKit
set_option linter.unusedVariables false
theorem str_beq_ne {a b : ByteArray} (h : a ≠ b) : (a.toList == b.toList) = false := by
  rw [beq_eq_false_iff_ne, ByteArray.toList_eq, ByteArray.toList_eq]
  intro e
  exact h (ByteArray.ext (Array.toList_inj.1 e))
theorem str_beq_self (a : ByteArray) : (a.toList == a.toList) = true := by simp
set_option maxHeartbeats 1000000 in
theorem rHas_any (w : World) (v : Value) (l : List ByteArray) (k : ByteArray) (h : StrsB w v l) :
    Calls Try.prog 115 #[v, .string k] w fun e w' => e = .returned (.bool (decide (k ∈ l))) ∧ w = w' := by
  obtain ⟨A, c, rfl, h1, h2⟩ := h.len
  have HC := Lib.hid h.cells; clear h
  have hm : l.length ≤ 9223372036854775807 := by unfold maxLen at h2; omega
  clear h1 h2
  go_enter Try.func115, Try.ntmps115
  go_wp2
  go_loop [5] (fun i => ∃ j : Nat, j ≤ l.length ∧ i = .int .i64 j ∧ Hid (k ∉ l.take j)) (fun i => l.length - (intOf i).toNat)
  case atStart => exact ⟨0, Nat.zero_le _, rfl, by simp [Hid]⟩
  case round =>
    obtain ⟨j, hj, rfl, HN⟩ := hrel
    by_cases hlt : j < l.length
    · obtain ⟨b, off, rfl, hb, hcell⟩ := HC.out (by omega)
      have e1 := hcell j hlt
      have hlt' : (j : Int) < (l.length : Int) := by omega
      by_cases hq : l[j] = k
      · have HD : Hid (decide (k ∈ l) = true) := by unfold Hid; rw [decide_eq_true_iff, ← hq]; exact List.getElem_mem _
        rw [hq] at e1
        have hs := str_beq_self k
        clear hcell hq
        go_wp2
        go_ret
        exact ⟨by rw [HD.out]; rfl, rfl⟩
      · have hs := str_beq_ne hq
        have HN2 : Hid (k ∉ l.take (j + 1)) := by
          unfold Hid; rw [take_succ_list _ _ hlt, List.mem_append]
          rintro (h | h)
          · exact HN.out h
          · simp at h; exact hq h.symm
        generalize l[j] = x at *
        clear hcell hq
        go_wp2
        go_round
        case rel => exact ⟨j + 1, by omega, by go_num, HN2.out⟩
        case measure => simp [intOf]; omega
    · have HD : Hid (decide (k ∈ l) = false) := by
        unfold Hid; rw [decide_eq_false_iff_not]
        have := HN.out
        rwa [List.take_of_length_le (by omega)] at this
      go_wp2
      go_ret
      exact ⟨by rw [HD.out]; rfl, rfl⟩
/-- what the loop of add has written, and whether k is among it -/
def gDone (k : ByteArray) (L : List ByteArray) : Bool := L.any (bl k)
def gIns (k : ByteArray) (L : List ByteArray) : List ByteArray := if gDone k L then rIns k L else L
theorem rIns_app (k : ByteArray) (M : List ByteArray) : ∀ L, gDone k L = true → rIns k (L ++ M) = rIns k L ++ M
  | [], h => by simp [gDone] at h
  | x :: xs, h => by
    rw [List.cons_append, rIns, rIns]
    by_cases hb : bl k x = true
    · rw [if_pos hb, if_pos hb]; rfl
    · rw [if_neg hb, if_neg hb, rIns_app k M xs (by simpa [gDone, hb] using h)]; rfl
theorem rIns_pre (k : ByteArray) (M : List ByteArray) : ∀ L, gDone k L = false → rIns k (L ++ M) = L ++ rIns k M
  | [], h => rfl
  | x :: xs, h => by
    simp [gDone] at h
    rw [List.cons_append, rIns, if_neg (by simp [h.1]), rIns_pre k M xs (by simpa [gDone] using h.2)]; rfl
theorem gDone_snoc (k x : ByteArray) (L : List ByteArray) : gDone k (L ++ [x]) = (gDone k L || bl k x) := by simp [gDone]
theorem gIns_done {k x : ByteArray} {L : List ByteArray} (h : gDone k L = true) : gIns k (L ++ [x]) = gIns k L ++ [x] := by
  unfold gIns; rw [gDone_snoc, h, Bool.true_or, if_pos rfl, if_pos rfl, rIns_app k [x] L h]
theorem gIns_now {k x : ByteArray} {L : List ByteArray} (h : gDone k L = false) (hb : bl k x = true) : gIns k (L ++ [x]) = (gIns k L ++ [k]) ++ [x] := by
  unfold gIns; rw [gDone_snoc, h, hb, Bool.false_or, if_pos rfl, if_neg (by simp), rIns_pre k [x] L h, rIns, if_pos hb]; simp
theorem gIns_not {k x : ByteArray} {L : List ByteArray} (h : gDone k L = false) (hb : bl k x = false) : gIns k (L ++ [x]) = gIns k L ++ [x] := by
  unfold gIns; rw [gDone_snoc, h, hb, Bool.false_or, if_neg (by simp), if_neg (by simp)]
theorem gIns_end (k : ByteArray) (L : List ByteArray) : rIns k L = if gDone k L then gIns k L else gIns k L ++ [k] := by
  unfold gIns
  cases h : gDone k L
  · have := rIns_pre k [] L h
    rw [List.append_nil] at this
    simpa [rIns] using this
  · simp
theorem gIns_len (k : ByteArray) (L : List ByteArray) : (gIns k L).length ≤ L.length + 1 := by
  unfold gIns; split
  · rw [rIns_len]; omega
  · omega
set_option maxRecDepth 20000 in
set_option maxHeartbeats 2000000 in
theorem rAdd_any (w : World) (v : Value) (l : List ByteArray) (k : ByteArray) (h : StrsB w v l) (hl : l.length ≤ 1000000) :
    Calls Try.prog 96 #[v, .string k] w fun e w' => ∃ v', e = .returned v' ∧ StrsB w' v' (rAdd l k) ∧ Below w.heap.size w w' := by
  have HB0 := Lib.hid h
  obtain ⟨A, c, rfl, h1, h2⟩ := h.len
  have HC := Lib.hid h.cells
  have HH := Lib.hid (rHas_any w _ l k h); clear h
  by_cases hk : k ∈ l
  · have HR : Hid (rAdd l k = l) := by unfold Hid rAdd; rw [if_pos (by simpa using hk)]
    have HD : Hid (decide (k ∈ l) = true) := by unfold Hid; simpa using hk
    clear hk h1 h2
    go_enter Try.func96, Try.ntmps96
    go_wp2_with fail
    refine HH.out.mono ?_
    rintro e w1 ⟨rfl, rfl⟩
    rw [HD.out]
    go_wp2
    go_ret
    exact ⟨_, rfl, by rw [HR.out]; exact HB0.out, Below.refl _ _⟩
  · have HR : Hid (rAdd l k = rIns k l) := by unfold Hid rAdd; rw [if_neg (by simpa using hk)]
    have HD : Hid (decide (k ∈ l) = false) := by unfold Hid; simpa using hk
    have HK := Lib.hid hk; clear hk
    have hm : l.length ≤ 9223372036854775807 := by omega
    clear h1 h2 HB0
    go_enter Try.func96, Try.ntmps96
    go_wp2_with fail
    refine HH.out.mono ?_
    rintro e w1 ⟨rfl, rfl⟩
    rw [HD.out]
    go_wp2_with fail
    go_loopw [5, 6, 7] (fun o d i wr => ∃ j : Nat, j ≤ l.length ∧ i = .int .i64 j ∧ d = .bool (gDone k (l.take j)) ∧ Hid (wr.ownsRow w.heap.size 9 1 o (gIns k (l.take j)).length ((gIns k (l.take j)).map .string)) ∧ Hid (Below w.heap.size w wr)) (fun _ _ i _ => l.length - (intOf i).toNat)
    case atStart => exact ⟨0, Nat.zero_le _, rfl, rfl, World.ownsRow_nil _ _ _ _, Below.refl _ _⟩
    case round =>
      obtain ⟨j, hj, rfl, rfl, HO, HW⟩ := hrel
      have hgl := gIns_len k (l.take j)
      have htl : (l.take j).length ≤ j := List.length_take_le _ _
      have hO1 : (gIns k (l.take j)).length ≤ 1000001 := by omega
      clear hgl htl
      have hsz : w.heap.size ≤ wr.heap.size := HW.out.size
      by_cases hlt : j < l.length
      · obtain ⟨b, off, rfl, hblt, hcell⟩ := HC.out (by omega)
        have e0 : w.cell? ⟨b, off + j, none⟩ = some (.string l[j]) := hcell j hlt
        have e1 : wr.cell? ⟨b, off + j, none⟩ = some (.string l[j]) := (HW.out.cell (p := ⟨b, off + j, none⟩) hblt).trans e0
        have E0 := Lib.hid e0; clear e0
        have hlt' : (j : Int) < (l.length : Int) := by omega
        have HT : Hid (l.take (j + 1) = l.take j ++ [l[j]]) := take_succ_list l j hlt
        have HNE : Hid (l[j] ≠ k) := fun e => HK.out (e ▸ List.getElem_mem _)
        generalize l[j] = x at *
        clear hcell
        cases hd : gDone k (l.take j)
        · cases hb : bl k x
          · have p1 : Op.bytesLess x.toList k.toList = true := by
              rw [ByteArray.toList_eq, ByteArray.toList_eq]
              cases hq : bl x k
              · exact absurd (bl_total hq hb) HNE.out
              · exact hq
            have HG := Lib.hid (gIns_not hd hb)
            have HDN : Hid (gDone k (l.take j ++ [x]) = false) := by unfold Hid; rw [gDone_snoc, hd, hb]; rfl
            clear hd hb
            generalize gIns k (l.take j) = out at *
            have hown := HO.out
            go_wp2_with (at_builtin; refine wpList_push_str rfl _ _ 54 rfl Try.underlying54 w.heap.size _ out rfl (hown.alloc _) ⟨wr.heap.size, 0, none⟩ _ x rfl (by simp) (by omega) (by simp; omega) ?_)
            intro v' w1 hown1 hg1
            have HO1 : Hid (w1.ownsRow w.heap.size 9 1 v' (out ++ [x]).length ((out ++ [x]).map .string)) := by unfold Hid; simpa using hown1
            have HW1 := Lib.hid (own_grow_alloc _ HW.out hown hg1)
            clear hown1 hg1
            go_wp2
            go_roundw
            case rel => exact ⟨j + 1, by omega, by go_num, by rw [HT.out, HDN.out], by unfold Hid; rw [HT.out, HG.out]; exact HO1.out, HW1.out⟩
            case measure => simp [intOf]; omega
          · have p1 : Op.bytesLess x.toList k.toList = false := by
              rw [ByteArray.toList_eq, ByteArray.toList_eq]; exact bl_asymm hb
            have p2 : (x.toList == k.toList) = false := str_beq_ne HNE.out
            have HG := Lib.hid (gIns_now hd hb)
            have HDN : Hid (gDone k (l.take j ++ [x]) = true) := by unfold Hid; rw [gDone_snoc, hd, hb]; rfl
            clear hd hb
            generalize gIns k (l.take j) = out at *
            have hown := HO.out
            go_wp2_with (at_builtin; refine wpList_push_str rfl _ _ 54 rfl Try.underlying54 w.heap.size _ out rfl (hown.alloc _) ⟨wr.heap.size, 0, none⟩ _ k rfl (by simp) (by simp; omega) (by simp; omega) ?_)
            intro v' w1 hown1 hg1
            have HO1 : Hid (w1.ownsRow w.heap.size 9 1 v' (out ++ [k]).length ((out ++ [k]).map .string)) := by unfold Hid; simpa using hown1
            have HW1 := Lib.hid (own_grow_alloc _ HW.out hown hg1)
            clear hown1 hg1
            have hown := HO1.out
            have e1 : w1.cell? ⟨b, off + j, none⟩ = some (.string x) := (HW1.out.cell (p := ⟨b, off + j, none⟩) hblt).trans E0.out
            have hsz : w.heap.size ≤ w1.heap.size := HW1.out.size
            go_wp2_with (at_builtin; refine wpList_push_str rfl _ _ 54 rfl Try.underlying54 w.heap.size _ (out ++ [k]) rfl (hown.alloc _) ⟨w1.heap.size, 0, none⟩ _ x rfl (by simp) (by simp; omega) (by simp; omega) ?_)
            intro v' w2 hown1 hg1
            have HO1 : Hid (w2.ownsRow w.heap.size 9 1 v' ((out ++ [k]) ++ [x]).length (((out ++ [k]) ++ [x]).map .string)) := by unfold Hid; simpa using hown1
            have HW1 := Lib.hid (own_grow_alloc _ HW1.out hown hg1)
            clear hown1 hg1
            go_wp2
            go_roundw
            case rel => exact ⟨j + 1, by omega, by go_num, by rw [HT.out, HDN.out], by unfold Hid; rw [HT.out, HG.out]; exact HO1.out, HW1.out⟩
            case measure => simp [intOf]; omega
        · have HG := Lib.hid (gIns_done (x := x) hd)
          have HDN : Hid (gDone k (l.take j ++ [x]) = true) := by unfold Hid; rw [gDone_snoc, hd]; rfl
          clear hd
          generalize gIns k (l.take j) = out at *
          have hown := HO.out
          go_wp2_with (at_builtin; refine wpList_push_str rfl _ _ 54 rfl Try.underlying54 w.heap.size _ out rfl (hown.alloc _) ⟨wr.heap.size, 0, none⟩ _ x rfl (by simp) (by simp; omega) (by simp; omega) ?_)
          intro v' w1 hown1 hg1
          have HO1 : Hid (w1.ownsRow w.heap.size 9 1 v' (out ++ [x]).length ((out ++ [x]).map .string)) := by unfold Hid; simpa using hown1
          have HW1 := Lib.hid (own_grow_alloc _ HW.out hown hg1)
          clear hown1 hg1
          go_wp2
          go_roundw
          case rel => exact ⟨j + 1, by omega, by go_num, by rw [HT.out, HDN.out], by unfold Hid; rw [HT.out, HG.out]; exact HO1.out, HW1.out⟩
          case measure => simp [intOf]; omega
      · obtain rfl : j = l.length := by omega
        have hge := gIns_end k l
        rw [List.take_length] at *
        cases hd : gDone k l
        · rw [hd, if_neg (by simp)] at hge
          rw [hge] at HR
          clear hge hd
          generalize gIns k l = out at *
          have hown := HO.out
          go_wp2_with (at_builtin; refine wpList_push_str rfl _ _ 54 rfl Try.underlying54 w.heap.size _ out rfl (hown.alloc _) ⟨wr.heap.size, 0, none⟩ _ k rfl (by simp) (by simp; omega) (by simp; omega) ?_)
          intro v' w1 hown1 hg1
          have HO1 : Hid (w1.ownsRow w.heap.size 9 1 v' (out ++ [k]).length ((out ++ [k]).map .string)) := by unfold Hid; simpa using hown1
          have HW1 := Lib.hid (own_grow_alloc _ HW.out hown hg1)
          clear hown1 hg1
          go_wp2
          go_ret
          exact ⟨_, rfl, by rw [HR.out]; exact StrsB.of_owns HO1.out, HW1.out⟩
        · rw [hd, if_pos rfl] at hge
          rw [hge] at HR
          clear hge hd
          generalize gIns k l = out at *
          go_wp2
          go_ret
          exact ⟨_, rfl, by rw [HR.out]; exact StrsB.of_owns HO.out, HW.out⟩
theorem rOf_snoc (l : List ByteArray) (x : ByteArray) : rOf (l ++ [x]) = if x.size = 32 then rAdd (rOf l) x else rOf l := by
  unfold rOf
  rw [List.filter_append]
  by_cases h : x.size = 32
  · rw [if_pos h, show [x].filter (fun x => decide (x.size = 32)) = [x] by simp [h], rJoin_snoc]
  · rw [if_neg h, show [x].filter (fun x => decide (x.size = 32)) = [] by simp [h], List.append_nil]
theorem rOf_len (l : List ByteArray) : (rOf l).length ≤ l.length := by
  have := rJoin_len (l.filter fun x => decide (x.size = 32)) []
  have h := List.length_filter_le (fun x : ByteArray => decide (x.size = 32)) l
  unfold rOf; simp at this; omega
set_option maxRecDepth 20000 in
set_option maxHeartbeats 2000000 in
theorem rOf_any (w : World) (va : Value) (la : List ByteArray) (ha : StrsB w va la) (hl : la.length ≤ 1000000) :
    Calls Try.prog 79 #[va] w fun e w' => ∃ v', e = .returned v' ∧ StrsB w' v' (rOf la) ∧ Below w.heap.size w w' := by
  obtain ⟨A, c, rfl, h1, h2⟩ := ha.len
  have HC := Lib.hid ha.cells; clear ha
  have hm : la.length ≤ 9223372036854775807 := by omega
  clear h1 h2
  go_enter Try.func79, Try.ntmps79
  go_wp2_with fail
  go_loopw [3, 4] (fun o i wr => ∃ j : Nat, j ≤ la.length ∧ i = .int .i64 j ∧ Hid (StrsB wr o (rOf (la.take j))) ∧ Hid (Below w.heap.size w wr)) (fun _ i _ => la.length - (intOf i).toNat)
  case atStart => exact ⟨0, Nat.zero_le _, rfl, strsB_nil _, Below.refl _ _⟩
  case round =>
    obtain ⟨j, hj, rfl, HB, HW⟩ := hrel
    by_cases hlt : j < la.length
    · obtain ⟨b, off, rfl, hblt, hcell⟩ := HC.out (by omega)
      have e1 : wr.cell? ⟨b, off + j, none⟩ = some (.string la[j]) := (HW.out.cell (p := ⟨b, off + j, none⟩) hblt).trans (hcell j hlt)
      have hlt' : (j : Int) < (la.length : Int) := by omega
      have hT := take_succ_list la j hlt
      have hN := rOf_snoc (la.take j) la[j]
      rw [← hT] at hN
      have HN := Lib.hid hN; clear hN hT
      have hlen := rOf_len (la.take j)
      have HA1 := Lib.hid (rAdd_any wr _ _ la[j] HB.out (by have := List.length_take_le j la; omega))
      generalize la[j] = x at *
      clear hcell hlen
      by_cases hs : x.size = 32
      · have hs' : ((x.size : Int) == 32) = true := by rw [beq_iff_eq]; omega
        have HS := Lib.hid hs; clear hs
        go_wp2_with fail
        refine HA1.out.mono ?_
        rintro e w1 ⟨v1, rfl, hB1, b1⟩
        have HB1 := Lib.hid hB1
        have HW1 := Lib.hid (below_then HW.out b1)
        clear hB1 b1 HA1
        go_wp2
        go_roundw
        case rel => exact ⟨j + 1, by omega, by go_num, by unfold Hid; rw [HN.out, if_pos HS.out]; exact HB1.out, HW1.out⟩
        case measure => simp [intOf]; omega
      · have hs' : ((x.size : Int) == 32) = false := by rw [beq_eq_false_iff_ne]; omega
        have HS := Lib.hid hs; clear hs HA1
        go_wp2
        go_roundw
        case rel => exact ⟨j + 1, by omega, by go_num, by unfold Hid; rw [HN.out, if_neg HS.out]; exact HB.out, HW.out⟩
        case measure => simp [intOf]; omega
    · obtain rfl : j = la.length := by omega
      rw [List.take_length] at HB
      go_wp2
      go_ret
      exact ⟨_, rfl, HB.out, HW.out⟩
end Go.Proofs.Yteidlngffikboaa
