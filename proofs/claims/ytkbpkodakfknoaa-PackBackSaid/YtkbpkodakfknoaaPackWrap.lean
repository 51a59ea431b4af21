/- pack.Wrap: its walk. -/
import Derived.Test.YtkbpkodakfknoaaFrameWrap
import Derived.Test.YtkbpkodakfknoaaShaBld
import Derived.Test.YtkbpkodakfknoaaPackFind
namespace Go.Proofs.Ytkbpkodakfknoaa
open Go.RowKit
set_option linter.unusedVariables false
set_option linter.unusedSimpArgs false
/-- an object: key, bytes -/
abbrev Ob := ByteArray × ByteArray
def oText (o : Ob) : ByteArray := o.1 ++ o.2
def oBytes (o : Ob) : ByteArray := ⟨(fWrap (oText o).data.toList).toArray⟩
def pWrap (l : List Ob) : List UInt8 := l.flatMap fun o => (oBytes o).data.toList
def smallO (l : List Ob) : Prop := ∀ o ∈ l, o.1.size + o.2.size ≤ 20000
theorem oText_size (o : Ob) : (oText o).size = o.1.size + o.2.size := ByteArray.size_append
theorem oBytes_size (o : Ob) (h : o.1.size + o.2.size ≤ 20000) : (oBytes o).size ≤ 20100 ∧ 5 ≤ (oBytes o).size := by
  have hl : (oText o).data.toList.length = o.1.size + o.2.size := by rw [Array.length_toList]; exact oText_size o
  have h1 := fWrap_len (oText o).data.toList (by omega)
  have h2 := vPut_len10 (oText o).data.toList.length (by omega)
  have h3 : (oBytes o).size = (fWrap (oText o).data.toList).length := List.size_toArray
  have h4 : 1 ≤ (vPut (oText o).data.toList.length).length := vPut_pos _
  omega
theorem pWrap_snoc (l : List Ob) (o : Ob) : pWrap (l ++ [o]) = pWrap l ++ (oBytes o).data.toList := by simp [pWrap]
theorem pWrap_len (l : List Ob) (h : smallO l) : (pWrap l).length ≤ l.length * 20100 := by
  induction l with
  | nil => simp [pWrap]
  | cons o l ih =>
    have h1 := (oBytes_size o (h o (by simp))).1
    have h2 := ih (fun o ho => h o (by simp [ho]))
    have e : (oBytes o).data.toList.length = (oBytes o).size := by rw [Array.length_toList]; rfl
    show ((oBytes o).data.toList ++ pWrap l).length ≤ _
    rw [List.length_append, List.length_cons, e]
    omega
theorem pWrap_ne (l : List Ob) (h : smallO l) (h0 : l ≠ []) : pWrap l ≠ [] := by
  cases l with
  | nil => exact absurd rfl h0
  | cons o l =>
    intro e
    have h1 := (oBytes_size o (h o (by simp))).2
    have e2 : (oBytes o).data.toList.length = (oBytes o).size := by rw [Array.length_toList]; rfl
    have : ((oBytes o).data.toList ++ pWrap l).length = 0 := by rw [show (oBytes o).data.toList ++ pWrap l = pWrap (o :: l) from rfl, e]; rfl
    rw [List.length_append] at this
    omega
/-- a row of objects, readable -/
def ObjsB (w : World) (v : Value) (l : List Ob) : Prop :=
  ∃ A c, v = .slice A l.length c ∧ l.length ≤ c ∧ c ≤ maxLen ∧ (0 < l.length → ∃ b off, A = some ⟨b, off, none⟩ ∧ b < w.heap.size ∧ ∀ i (h : i < l.length), w.cell? ⟨b, off + i * 2, none⟩ = some (.string l[i].1) ∧ w.cell? ⟨b, off + i * 2 + 1, none⟩ = some (.string l[i].2))
theorem ObjsB.below {w w' : World} {v : Value} {l : List Ob} {B : Nat} (h : ObjsB w v l) (hb : Below B w w') (hB : w.heap.size ≤ B) : ObjsB w' v l := by
  obtain ⟨A, c, h1, h2, h3, h4⟩ := h
  refine ⟨A, c, h1, h2, h3, fun hl => ?_⟩
  obtain ⟨b, off, e1, e2, e3⟩ := h4 hl
  refine ⟨b, off, e1, Nat.lt_of_lt_of_le e2 hb.size, fun i hi => ?_⟩
  obtain ⟨c1, c2⟩ := e3 i hi
  have hlt : b < B := Nat.lt_of_lt_of_le e2 hB
  exact ⟨(hb.cell (p := ⟨b, off + i * 2, none⟩) hlt).trans c1, (hb.cell (p := ⟨b, off + i * 2 + 1, none⟩) hlt).trans c2⟩
theorem isBld_belowP {w w' : World} {b : Nat} {l : List UInt8} (h : isBld w b l) (hb : Below w.heap.size w w') : isBld w' b l := by
  have go : ∀ q, Lib.BuilderAt 51 5 b b q (Lib.byteCells l) w → Lib.BuilderAt 51 5 b b q (Lib.byteCells l) w' := by
    intro q hq
    have hlt := hq.lt
    obtain ⟨hB, v, hbk, hown, hne⟩ := hq
    have hg : w.grownBy w' none := ⟨hb.os, hb.tape, hb.output, hb.size, fun k hk _ => hb.block k hk⟩
    exact ⟨hB, v, by rw [hb.block b hlt]; exact hbk, hown.kept hg (by
      by_cases e : v.ownBlock = none
      · exact .inl e
      · exact .inr e), hne⟩
  rcases h with h | h
  · exact Or.inl (go _ h)
  · exact Or.inr (go _ h)
theorem bldString_fresh (b : Nat) (w : World) (hbk : w.heap[b]? = some (.cells #[.pointer none, .slice none 0 0] 51 (0, 0))) :
    Calls Try.prog 23 #[.pointer (some ⟨b, 0, none⟩)] w fun e w' => e = .returned (.string ⟨#[]⟩) ∧ Below b w w' := by
  have c1 : w.drew.cell? ⟨b, 1, none⟩ = some (.slice none 0 0) := by
    have : w.drew.heap[b]? = some (.cells #[.pointer none, .slice none 0 0] 51 (0, 0)) := hbk
    rw [Lib.cell_of_heap this]; rfl
  have hSD : (Builtin.unsafeSliceData_ #[49] 84 #[.slice none 0 0]).run Try.prog w.drew = .ok (.pointer none) w.drew := rfl
  have hUS : (Builtin.unsafeString_ #[84, 3] 9 #[.pointer none, .int .i64 0]).run Try.prog w.drew = .ok (.string ⟨#[]⟩) w.drew := Lib.run_unsafeString_none _ _ _ _ _
  go_enter Try.func23, Try.ntmps23
  go_wp2
  go_region
  all_goals (go_wp2; go_ret; exact ⟨rfl, Below.drew (Below.refl b w)⟩)
set_option maxRecDepth 20000 in
set_option maxHeartbeats 2000000 in
theorem pwrap_any (v : Value) (l : List Ob) (w : World) (hv : ObjsB w v l) (hs : smallO l) (hl : l.length ≤ 1000) :
    Calls Try.prog 9 #[v] w fun e w' => e = .returned (.string ⟨(pWrap l).toArray⟩) ∧ Below w.heap.size w w' := by
  have HS := Lib.hid hs
  have HPL := Lib.hid (fun j => pWrap_len (l.take j) (fun o ho => hs o (List.mem_of_mem_take ho)))
  have HNE := Lib.hid (pWrap_ne l hs)
  obtain ⟨A, c, rfl, h2, h3, h4⟩ := hv
  have hc9 : c ≤ 9223372036854775807 := by unfold maxLen at h3; omega
  have HH4 := Lib.hid h4
  have q1 := heap_alloc_new w (.cells #[.pointer none, .slice none 0 0] 51)
  have q2 := isBld_fresh w
  obtain ⟨wp, hwp⟩ : ∃ wp, wp = w.alloc (.cells #[.pointer none, .slice none 0 0] 51) := ⟨_, rfl⟩
  have HWP : Hid (w.alloc (.cells #[.pointer none, .slice none 0 0] 51) = wp) := hwp.symm
  rw [← hwp] at q1 q2
  have HBP : Hid (Below w.heap.size w wp) := by unfold Hid; rw [hwp]; exact (Below.refl _ _).alloc (Nat.le_refl _) _
  have HQ1 := Lib.hid q1
  have HQ2 := Lib.hid q2
  obtain ⟨n, hn⟩ : ∃ n, n = l.length := ⟨_, rfl⟩
  have HN := Lib.hid hn
  rw [← hn] at hl h2 ⊢
  obtain ⟨b0, hb0⟩ : ∃ b0, b0 = w.heap.size := ⟨_, rfl⟩
  have HB0 := Lib.hid hb0
  have hsp : wp.heap.size = b0 + 1 := by rw [hwp, hb0]; simp
  have HSP := Lib.hid hsp
  rw [← hb0] at HQ1 HQ2 HBP ⊢
  clear hwp q1 q2 hn hs h4 h3 hsp
  go_enter Try.func9, Try.ntmps9
  go_wp2_with fail
  rw [HWP.out, ← hb0]
  clear hb0
  go_loopw [8] (fun i wr => ∃ j : Nat, j ≤ n ∧ i = .int .i64 j ∧ Hid (isBld wr b0 (pWrap (l.take j))) ∧ Hid (Below b0 wp wr) ∧ Hid (j = 0 → wr = wp)) (fun i _ => n - (intOf i).toNat)
  case atStart => exact ⟨0, Nat.zero_le _, rfl, by unfold Hid; rw [List.take_zero]; exact HQ2.out, Below.refl _ _, fun _ => rfl⟩
  case round =>
    obtain ⟨j, hj, rfl, HBl, HBr, HJ⟩ := hrel
    by_cases hlt : j < n
    · have hlt' : (j : Int) < (n : Int) := by omega
      have hnn := HN.out
      obtain ⟨b, off, rfl, hblt, hcells⟩ := HH4.out (by omega)
      have hml : j < l.length := by omega
      obtain ⟨x1, x2⟩ := hcells j hml
      have hb0' : b < b0 := by have := HB0.out; omega
      have y1 := (HBr.out.cell (p := ⟨b, off + j * 2, none⟩) hb0').trans ((HBP.out.cell (p := ⟨b, off + j * 2, none⟩) hb0').trans x1)
      have y2 := (HBr.out.cell (p := ⟨b, off + j * 2 + 1, none⟩) hb0').trans ((HBP.out.cell (p := ⟨b, off + j * 2 + 1, none⟩) hb0').trans x2)
      have hj0 : (0 : Int) ≤ (j : Int) := by omega
      have hsz := HS.out l[j] (List.getElem_mem hml)
      have HT : Hid (pWrap (l.take (j + 1)) = pWrap (l.take j) ++ (oBytes l[j]).data.toList) := by
        unfold Hid; rw [List.take_succ_eq_append_getElem hml, pWrap_snoc]
      have HLEN := Lib.hid (HPL.out j)
      have hol := (oBytes_size l[j] hsz).1
      have HOL := Lib.hid hol
      have hk1 : l[j].1.size ≤ 20000 := by omega
      have hk2 : l[j].2.size ≤ 20000 := by omega
      have HW := Lib.hid (fun w => wrap_any (oText l[j]) (by rw [oText_size]; omega) w)
      have hOB : (⟨(fWrap (oText l[j]).data.toList).toArray⟩ : ByteArray) = oBytes l[j] := rfl
      rw [hOB] at HW
      unfold oText at HW
      generalize l[j] = o at *
      generalize oBytes o = OB at *
      clear hcells x1 x2 hnn HJ hOB hol
      go_wp2_with fail
      have ha := (Below.refl wr.heap.size wr).alloc (Nat.le_refl _) (.cells #[.string o.1, .string o.2] 45)
      refine (HW.out _).mono ?_
      rintro e w1 ⟨rfl, b1⟩
      have h1 := ha.trans (b1.mono (by simp))
      have HL1 := Lib.hid (isBld_belowP HBl.out h1)
      have hbr : b0 ≤ wr.heap.size := by have := HBr.out.size; have := HSP.out; omega
      have HB1 := Lib.hid (HBr.out.trans (h1.mono hbr))
      have hb1 : b0 ≤ w1.heap.size := by have := h1.size; omega
      clear ha b1 h1 HBl HBr y1 y2
      go_wp2_with fail
      refine (bldText_ok b0 _ OB w1 HL1.out (by have := HLEN.out; have := HOL.out; rw [List.length_take] at *; omega) hb1).mono ?_
      rintro e w2 ⟨rfl, l2, b2⟩
      have HL2 : Hid (isBld w2 b0 (pWrap (l.take (j + 1)))) := by unfold Hid; rw [HT.out]; exact l2
      have HB2 := Lib.hid (HB1.out.trans b2)
      clear l2 b2 HL1 HB1
      go_wp2_with fail
      go_round
      case rel => exact ⟨j + 1, by omega, by go_num, HL2, HB2, fun h => by omega⟩
      case measure => simp [intOf]; omega
    · obtain rfl : j = n := by omega
      have hnn := HN.out
      have HTK : Hid (l.take j = l) := by unfold Hid; rw [hnn, List.take_length]
      rw [HTK.out] at HBl
      by_cases h0 : l = []
      · have hj0 : j = 0 := by rw [hnn, h0]; rfl
        have HWJ := HJ.out hj0
        subst HWJ
        have HP0 : Hid (pWrap l = []) := by unfold Hid; rw [h0]; rfl
        clear hj0 h0 hnn
        go_wp2_with fail
        refine (bldString_fresh b0 _ (by rw [HB0.out]; have := HQ1.out; rw [HB0.out] at this; exact this)).mono ?_
        rintro e w2 ⟨rfl, b2⟩
        have HB2 := Lib.hid b2
        clear b2
        go_wp2_with fail
        go_ret
        refine ⟨by rw [HP0.out]; rfl, ?_⟩
        exact HBP.out.trans HB2.out
      · have HN2 := Lib.hid (HNE.out h0)
        clear h0 hnn
        go_wp2_with fail
        refine (bldString_ok b0 _ _ HBl.out HN2.out).mono ?_
        rintro e w2 ⟨rfl, b2⟩
        have HB2 := Lib.hid (HBr.out.trans b2)
        clear b2
        go_wp2_with fail
        go_ret
        exact ⟨rfl, HBP.out.trans HB2.out⟩
end Go.Proofs.Ytkbpkodakfknoaa
