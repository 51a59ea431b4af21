/- silolaw17.small: few objects of few bytes. -/
import Derived.Test.YtkbpkodakfknoaaPackWrap
namespace Go.Proofs.Ytkbpkodakfknoaa
open Go.RowKit
set_option linter.unusedVariables false
set_option linter.unusedSimpArgs false
def sumO (l : List Ob) : Nat := (l.map fun o => o.2.size + o.1.size).foldl (· + ·) 0
theorem sumO_snoc (l : List Ob) (o : Ob) : sumO (l ++ [o]) = sumO l + (o.2.size + o.1.size) := by simp [sumO]
theorem sumO_mem (l : List Ob) : ∀ o ∈ l, o.1.size + o.2.size ≤ sumO l := by
  have key : ∀ (n : Nat) (l : List Ob), l.length = n → ∀ o ∈ l, o.1.size + o.2.size ≤ sumO l := by
    intro n
    induction n with
    | zero => intro l hl o ho; rw [List.length_eq_zero_iff.1 hl] at ho; cases ho
    | succ n ih =>
      intro l hl o ho
      obtain ⟨l0, x, rfl⟩ : ∃ l0 x, l = l0 ++ [x] := ⟨l.dropLast, l.getLast (by intro e; rw [e] at hl; cases hl), (List.dropLast_concat_getLast (by intro e; rw [e] at hl; cases hl)).symm⟩
      rw [sumO_snoc]
      rcases List.mem_append.1 ho with h | h
      · have := ih l0 (by simp at hl; omega) o h; omega
      · rw [List.mem_singleton.1 h]; omega
  exact key _ l rfl
def SmallPost (l : List Ob) (w : World) (e : Ending) (w' : World) : Prop := ∃ b : Bool, e = .returned (.bool b) ∧ (b = true → l.length ≤ 60 ∧ smallO l ∧ sumO l ≤ 20000) ∧ Below w.heap.size w w'
set_option maxRecDepth 20000 in
set_option maxHeartbeats 2000000 in
theorem small_any (v : Value) (l : List Ob) (w : World) (hv : ObjsB w v l) (hm : ∀ o ∈ l, o.1.size ≤ 140737488355328 ∧ o.2.size ≤ 140737488355328) :
    Calls Try.prog 7 #[v] w (SmallPost l w) := by
  have HM := Lib.hid hm
  obtain ⟨A, c, rfl, h2, h3, h4⟩ := hv
  have hc9 : c ≤ 9223372036854775807 := by unfold maxLen at h3; omega
  have HH4 := Lib.hid h4
  obtain ⟨n, hn⟩ : ∃ n, n = l.length := ⟨_, rfl⟩
  have HN := Lib.hid hn
  rw [← hn] at h2 ⊢
  clear hn h4 h3 hm
  by_cases h60 : n ≤ 60
  · have d60 : decide ((60 : Int) < (n : Int)) = false := by simp; omega
    go_enter Try.func7, Try.ntmps7
    go_wp2_with fail
    go_loopw [3, 11] (fun s i wr => ∃ j : Nat, j ≤ n ∧ i = .int .i64 j ∧ s = .int .i64 (sumO (l.take j) : Nat) ∧ Hid (sumO (l.take j) ≤ 20000) ∧ Hid (Below w.heap.size w wr)) (fun _ i _ => n - (intOf i).toNat)
    case atStart => exact ⟨0, Nat.zero_le _, rfl, rfl, by unfold Hid; simp [sumO], Below.refl _ _⟩
    case round =>
      obtain ⟨j, hj, rfl, rfl, HSum, HBr⟩ := hrel
      by_cases hlt : j < n
      · have hlt' : (j : Int) < (n : Int) := by omega
        have hnn := HN.out
        obtain ⟨b, off, rfl, hblt, hcells⟩ := HH4.out (by omega)
        have hml : j < l.length := by omega
        obtain ⟨x1, x2⟩ := hcells j hml
        have y1 := (HBr.out.cell (p := ⟨b, off + j * 2, none⟩) hblt).trans x1
        have y2 := (HBr.out.cell (p := ⟨b, off + j * 2 + 1, none⟩) hblt).trans x2
        have hj0 : (0 : Int) ≤ (j : Int) := by omega
        obtain ⟨hk1, hk2⟩ := HM.out l[j] (List.getElem_mem hml)
        have HT : Hid (sumO (l.take (j + 1)) = sumO (l.take j) + (l[j].2.size + l[j].1.size)) := by
          unfold Hid; rw [List.take_succ_eq_append_getElem hml, sumO_snoc]
        have hs20 := HSum.out
        generalize l[j] = o at *
        generalize sumO (l.take j) = S0 at *
        clear hcells x1 x2 hnn
        have hs20' : (S0 : Int) ≤ 20000 := by omega
        have HBa : Hid (Below w.heap.size w (wr.alloc (.cells #[.string o.1, .string o.2] 45))) := HBr.out.alloc HBr.out.size _
        by_cases hbig : S0 + (o.2.size + o.1.size) ≤ 20000
        · have dd : decide ((20000 : Int) < (S0 : Int) + ((o.2.size : Int) + (o.1.size : Int))) = false := by simp; omega
          go_wp2_with fail
          go_roundw
          case rel => exact ⟨j + 1, by omega, by go_num, by rw [HT.out]; go_num, by unfold Hid; rw [HT.out]; exact hbig, HBa⟩
          case measure => simp [intOf]; omega
        · have dd : decide ((20000 : Int) < (S0 : Int) + ((o.2.size : Int) + (o.1.size : Int))) = true := by simp; omega
          go_wp2_with fail
          go_ret
          exact ⟨false, rfl, (fun h => by cases h), HBa.out⟩
      · obtain rfl : j = n := by omega
        have hnn := HN.out
        have HF : Hid (j ≤ 60 ∧ smallO l ∧ sumO l ≤ 20000) := by
          have h1 := HSum.out
          rw [hnn, List.take_length] at h1
          refine ⟨h60, fun o ho => ?_, h1⟩
          have := sumO_mem l o ho
          omega
        rw [hnn] at HF
        clear hnn
        go_wp2_with fail
        go_ret
        exact ⟨true, rfl, (fun _ => HF.out), HBr.out⟩
  · have d60 : decide ((60 : Int) < (n : Int)) = true := by simp; omega
    go_enter Try.func7, Try.ntmps7
    go_wp2_with fail
    go_ret
    exact ⟨false, rfl, (fun h => by cases h), Below.refl _ _⟩
end Go.Proofs.Ytkbpkodakfknoaa
