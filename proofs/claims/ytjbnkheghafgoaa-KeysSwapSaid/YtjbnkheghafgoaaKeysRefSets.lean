/- siloref05.Join, some, Both, Less, Of; Fit of both; keys.Has; few: walks. -/
import Derived.Test.YtjbnkheghafgoaaKeysRefHas
import Derived.Test.YtjbnkheghafgoaaKeysOf
import Derived.Deep.QuietTactic
import Derived.BigQuiet
namespace Go.Proofs.Ytjbnkheghafgoaa
open Go.RowKit
set_option linter.unusedVariables false
set_option maxRecDepth 20000 in
set_option maxHeartbeats 2000000 in
theorem rJoin_any (w : World) (va vb : Value) (la lb : List ByteArray) (ha : StrsN w va la) (hb : StrsB w vb lb) (hl : la.length + lb.length ≤ 1000000) :
    Calls Try.prog 24 #[va, vb] w fun e w' => ∃ v', e = .returned v' ∧ StrsB w' v' (rJoin la lb) ∧ Below w.heap.size w w' := by
  obtain ⟨A, c, rfl, h1, h2⟩ := ha.1.len
  have HA := Lib.hid ha; clear ha
  obtain ⟨A', c', rfl, h1', h2'⟩ := hb.len
  have HC := Lib.hid hb.cells; clear hb
  have hm : lb.length ≤ 9223372036854775807 := by omega
  clear h1 h2 h1' h2'
  have hn := World.ownsRow_nil w w.heap.size 9 1
  go_enter Try.func24, Try.ntmps24
  go_wp2_with (at_builtin; refine wpList_append_strs rfl _ _ 33 rfl Try.underlying33 w.heap.size (.slice none 0 0) [] rfl hn _ la rfl HA.out (by simp; omega) (Nat.le_refl _) ?_)
  intro v1 w1 hown1 hg1
  have HB1 : Hid (StrsB w1 v1 (rJoin la [])) := StrsB.of_owns hown1
  have HW1 := Lib.hid (own_grow (Below.refl _ _) hn hg1)
  clear hown1 hg1 hn
  go_wp2_with fail
  go_loopw [5, 6] (fun o i wr => ∃ j : Nat, j ≤ lb.length ∧ i = .int .i64 j ∧ Hid (StrsB wr o (rJoin la (lb.take j))) ∧ Hid (Below w.heap.size w wr)) (fun _ i _ => lb.length - (intOf i).toNat)
  case atStart => exact ⟨0, Nat.zero_le _, rfl, HB1.out, HW1.out⟩
  case round =>
    clear HB1 HW1
    obtain ⟨j, hj, rfl, HB, HW⟩ := hrel
    by_cases hlt : j < lb.length
    · obtain ⟨b, off, rfl, hblt, hcell⟩ := HC.out (by omega)
      have e1 : wr.cell? ⟨b, off + j, none⟩ = some (.string lb[j]) := (HW.out.cell (p := ⟨b, off + j, none⟩) hblt).trans (hcell j hlt)
      have hlt' : (j : Int) < (lb.length : Int) := by omega
      have hT := take_succ_list lb j hlt
      have HN : Hid (rJoin la (lb.take (j + 1)) = rAdd (rJoin la (lb.take j)) lb[j]) := by unfold Hid; rw [hT, rJoin_snoc]
      clear hT
      have hlen := rJoin_len (lb.take j) la
      have HA1 := Lib.hid (rAdd_any wr _ _ lb[j] HB.out (by have := List.length_take_le j lb; omega))
      generalize lb[j] = x at *
      clear hcell hlen
      go_wp2_with fail
      refine HA1.out.mono ?_
      rintro e w1 ⟨v1, rfl, hB1, b1⟩
      have HB1 := Lib.hid hB1
      have HW1 := Lib.hid (below_then HW.out b1)
      clear hB1 b1 HA1
      go_wp2
      go_roundw
      case rel => exact ⟨j + 1, by omega, by go_num, by unfold Hid; rw [HN.out]; exact HB1.out, HW1.out⟩
      case measure => simp [intOf]; omega
    · obtain rfl : j = lb.length := by omega
      rw [List.take_length] at HB
      go_wp2
      go_ret
      exact ⟨_, rfl, HB.out, HW.out⟩
theorem rOf_snoc (l : List ByteArray) (x : ByteArray) : rOf (l ++ [x]) = if x.size = 32 then rAdd (rOf l) x else rOf l := by
  unfold rOf
  rw [List.filter_append]
  by_cases h : x.size = 32
  · rw [if_pos h, show [x].filter (fun x => decide (x.size = 32)) = [x] by simp [h], rJoin_snoc]
  · rw [if_neg h, show [x].filter (fun x => decide (x.size = 32)) = [] by simp [h], List.append_nil]
theorem rOf_len (l : List ByteArray) : (rOf l).length ≤ l.length := by
  have := rJoin_len (l.filter fun x => decide (x.size = 32)) []
  have h := List.length_filter_le (fun x : ByteArray => decide (x.size = 32)) l
  unfold rOf; simp at this; omega
set_option maxRecDepth 20000 in
set_option maxHeartbeats 2000000 in
theorem rOf_any (w : World) (va : Value) (la : List ByteArray) (ha : StrsB w va la) (hl : la.length ≤ 1000000) :
    Calls Try.prog 22 #[va] w fun e w' => ∃ v', e = .returned v' ∧ StrsB w' v' (rOf la) ∧ Below w.heap.size w w' := by
  obtain ⟨A, c, rfl, h1, h2⟩ := ha.len
  have HC := Lib.hid ha.cells; clear ha
  have hm : la.length ≤ 9223372036854775807 := by omega
  clear h1 h2
  go_enter Try.func22, Try.ntmps22
  go_wp2_with fail
  go_loopw [3, 4] (fun o i wr => ∃ j : Nat, j ≤ la.length ∧ i = .int .i64 j ∧ Hid (StrsB wr o (rOf (la.take j))) ∧ Hid (Below w.heap.size w wr)) (fun _ i _ => la.length - (intOf i).toNat)
  case atStart => exact ⟨0, Nat.zero_le _, rfl, strsB_nil _, Below.refl _ _⟩
  case round =>
    obtain ⟨j, hj, rfl, HB, HW⟩ := hrel
    by_cases hlt : j < la.length
    · obtain ⟨b, off, rfl, hblt, hcell⟩ := HC.out (by omega)
      have e1 : wr.cell? ⟨b, off + j, none⟩ = some (.string la[j]) := (HW.out.cell (p := ⟨b, off + j, none⟩) hblt).trans (hcell j hlt)
      have hlt' : (j : Int) < (la.length : Int) := by omega
      have hT := take_succ_list la j hlt
      have hN := rOf_snoc (la.take j) la[j]
      rw [← hT] at hN
      have HN := Lib.hid hN; clear hN hT
      have hlen := rOf_len (la.take j)
      have HA1 := Lib.hid (rAdd_any wr _ _ la[j] HB.out (by have := List.length_take_le j la; omega))
      generalize la[j] = x at *
      clear hcell hlen
      by_cases hs : x.size = 32
      · have hs' : ((x.size : Int) == 32) = true := by rw [beq_iff_eq]; omega
        have HS := Lib.hid hs; clear hs
        go_wp2_with fail
        refine HA1.out.mono ?_
        rintro e w1 ⟨v1, rfl, hB1, b1⟩
        have HB1 := Lib.hid hB1
        have HW1 := Lib.hid (below_then HW.out b1)
        clear hB1 b1 HA1
        go_wp2
        go_roundw
        case rel => exact ⟨j + 1, by omega, by go_num, by unfold Hid; rw [HN.out, if_pos HS.out]; exact HB1.out, HW1.out⟩
        case measure => simp [intOf]; omega
      · have hs' : ((x.size : Int) == 32) = false := by rw [beq_eq_false_iff_ne]; omega
        have HS := Lib.hid hs; clear hs HA1
        go_wp2
        go_roundw
        case rel => exact ⟨j + 1, by omega, by go_num, by unfold Hid; rw [HN.out, if_neg HS.out]; exact HB.out, HW.out⟩
        case measure => simp [intOf]; omega
    · obtain rfl : j = la.length := by omega
      rw [List.take_length] at HB
      go_wp2
      go_ret
      exact ⟨_, rfl, HB.out, HW.out⟩
theorem rSome_snoc (a b : List ByteArray) (i : Bool) (x : ByteArray) : rSome (a ++ [x]) b i = rSome a b i ++ (if (decide (x ∈ b) == i) = true then [x] else []) := by
  unfold rSome; rw [List.filter_append]; congr 1
  by_cases h : (decide (x ∈ b) == i) = true <;> simp [h]
set_option maxRecDepth 20000 in
set_option maxHeartbeats 2000000 in
theorem rSome_any (w : World) (va vb : Value) (la lb : List ByteArray) (d : Bool) (ha : StrsB w va la) (hb : StrsB w vb lb) (hl : la.length ≤ 1000000) :
    Calls Try.prog 42 #[va, vb, .bool d] w fun e w' => ∃ v', e = .returned v' ∧ w'.ownsRow w.heap.size 9 1 v' (rSome la lb d).length ((rSome la lb d).map .string) ∧ Below w.heap.size w w' := by
  obtain ⟨A, c, rfl, h1, h2⟩ := ha.len
  have HC := Lib.hid ha.cells; clear ha
  have HB0 := Lib.hid hb; clear hb
  have hm : la.length ≤ 9223372036854775807 := by omega
  clear h1 h2
  go_enter Try.func42, Try.ntmps42
  go_wp2_with fail
  go_loopw [7, 8] (fun o i wr => ∃ j : Nat, j ≤ la.length ∧ i = .int .i64 j ∧ Hid (wr.ownsRow w.heap.size 9 1 o (rSome (la.take j) lb d).length ((rSome (la.take j) lb d).map .string)) ∧ Hid (Below w.heap.size w wr)) (fun _ i _ => la.length - (intOf i).toNat)
  case atStart => exact ⟨0, Nat.zero_le _, rfl, World.ownsRow_nil _ _ _ _, Below.refl _ _⟩
  case round =>
    obtain ⟨j, hj, rfl, HO, HW⟩ := hrel
    have hsz : w.heap.size ≤ wr.heap.size := HW.out.size
    have hO1 : (rSome (la.take j) lb d).length ≤ 1000000 := by
      have := List.length_filter_le (fun x : ByteArray => decide (x ∈ lb) == d) (la.take j)
      have := List.length_take_le j la
      unfold rSome; omega
    by_cases hlt : j < la.length
    · obtain ⟨b, off, rfl, hblt, hcell⟩ := HC.out (by omega)
      have e1 : wr.cell? ⟨b, off + j, none⟩ = some (.string la[j]) := (HW.out.cell (p := ⟨b, off + j, none⟩) hblt).trans (hcell j hlt)
      have hlt' : (j : Int) < (la.length : Int) := by omega
      have hT := take_succ_list la j hlt
      have hN := rSome_snoc (la.take j) lb d la[j]
      rw [← hT] at hN
      have HN := Lib.hid hN; clear hN hT
      generalize la[j] = x at *
      have HH := Lib.hid (rHas_any wr _ lb x (HB0.out.below HW.out (Nat.le_refl _)))
      clear hcell
      generalize rSome (la.take j) lb d = out at *
      cases hd : (decide (x ∈ lb) == d)
      · rw [hd, if_neg (by simp)] at HN
        have HD := Lib.hid hd
        go_wp2_with fail
        refine HH.out.mono ?_
        rintro e w1 ⟨rfl, rfl⟩
        go_wp2
        go_roundw
        case rel => exact ⟨j + 1, by omega, by go_num, by unfold Hid; rw [HN.out, List.append_nil]; exact HO.out, HW.out⟩
        case measure => simp [intOf]; omega
      · rw [hd, if_pos rfl] at HN
        have hown := HO.out
        go_wp2_with fail
        refine HH.out.mono ?_
        rintro e w1 ⟨rfl, rfl⟩
        go_wp2_with (at_builtin; refine wpList_push_str rfl _ _ 33 rfl Try.underlying33 w.heap.size _ out rfl (hown.alloc _) ⟨wr.heap.size, 0, none⟩ _ x rfl (by simp) (by simp; omega) (by simp; omega) ?_)
        intro v' w1 hown1 hg1
        have HO1 : Hid (w1.ownsRow w.heap.size 9 1 v' (out ++ [x]).length ((out ++ [x]).map .string)) := by unfold Hid; simpa using hown1
        have HW1 := Lib.hid (own_grow_alloc _ HW.out hown hg1)
        clear hown1 hg1
        go_wp2
        go_roundw
        case rel => exact ⟨j + 1, by omega, by go_num, by unfold Hid; rw [HN.out]; exact HO1.out, HW1.out⟩
        case measure => simp [intOf]; omega
    · obtain rfl : j = la.length := by omega
      rw [List.take_length] at HO
      go_wp2
      go_ret
      exact ⟨_, rfl, HO.out, HW.out⟩
theorem rBoth_any (w : World) (va vb : Value) (la lb : List ByteArray) (ha : StrsB w va la) (hb : StrsB w vb lb) (hl : la.length ≤ 1000000) :
    Calls Try.prog 25 #[va, vb] w fun e w' => ∃ v', e = .returned v' ∧ w'.ownsRow w.heap.size 9 1 v' (rSome la lb true).length ((rSome la lb true).map .string) ∧ Below w.heap.size w w' := by
  have HS := Lib.hid (rSome_any w va vb la lb true ha hb hl)
  clear ha hb
  go_enter Try.func25, Try.ntmps25
  go_wp2_with fail
  refine HS.out.mono ?_
  rintro e w1 ⟨v, rfl, hown, b1⟩
  have HO := Lib.hid hown; clear hown
  go_wp2
  go_ret
  exact ⟨_, rfl, HO.out, b1⟩
theorem rLess_any (w : World) (va vb : Value) (la lb : List ByteArray) (ha : StrsB w va la) (hb : StrsB w vb lb) (hl : la.length ≤ 1000000) :
    Calls Try.prog 26 #[va, vb] w fun e w' => ∃ v', e = .returned v' ∧ w'.ownsRow w.heap.size 9 1 v' (rSome la lb false).length ((rSome la lb false).map .string) ∧ Below w.heap.size w w' := by
  have HS := Lib.hid (rSome_any w va vb la lb false ha hb hl)
  clear ha hb
  go_enter Try.func26, Try.ntmps26
  go_wp2_with fail
  refine HS.out.mono ?_
  rintro e w1 ⟨v, rfl, hown, b1⟩
  have HO := Lib.hid hown; clear hown
  go_wp2
  go_ret
  exact ⟨_, rfl, HO.out, b1⟩
end Go.Proofs.Ytjbnkheghafgoaa
