/- Walks: chapter 33's reader, which throws: must, number, cut. -/
import Derived.Test.YtlkpgefapcfdbaaDeltaR5
import Derived.Test.YtlkpgefapcfdbaaVarintTake
import Derived.Test.YtlkpgefapcfdbaaCrcWalk
import Derived.WalkLawsBesides
import Derived.Deep.QuietTactic
import Derived.BigQuiet
import Derived.BigRegion
import Derived.Maps.AppendAt
namespace Go.Proofs.Ytlkpgefapcfdbaa
open Go.RowKit
set_option linter.unusedVariables false
set_option linter.unusedSimpArgs false
/-- a thrown error -/
def thrownE (n : Nat) : Ending := .panicked [{ v := .iface 84 (.agg #[.int .i64 (n : Nat)]), recovered := false }]
set_option maxHeartbeats 1000000 in
theorem must_ok (e : Nat) (w : World) : Calls Try.prog 35 #[.bool true, .int .i64 (e : Nat)] w fun r w' => r = .returned (.tuple #[]) ∧ w = w' := by
  go_enter Try.func35, Try.ntmps35
  go_wp2
  go_end0
  exact ⟨rfl, rfl⟩
set_option maxHeartbeats 1000000 in
theorem must_bad (e : Nat) (w : World) : Calls Try.prog 35 #[.bool false, .int .i64 (e : Nat)] w fun r w' => r = thrownE e ∧ w = w' := by
  go_enter Try.func35, Try.ntmps35
  go_wp2
  exact ⟨rfl, rfl, rfl⟩
/-- a reader: block b holds what is left -/
def RdAt (w : World) (b : Nat) (s : ByteArray) : Prop := w.heap[b]? = some (.cells #[.string s] 62 (0, 0))
theorem RdAt.cell {w : World} {b : Nat} {s : ByteArray} (h : RdAt w b s) : w.cell? ⟨b, 0, none⟩ = some (.string s) := by simp [World.cell?, show w.heap[b]? = _ from h]
theorem RdAt.frozen {w : World} {b : Nat} {s : ByteArray} (h : RdAt w b s) : w.frozen? ⟨b, 0, none⟩ = false := by simp [World.frozen?, show w.heap[b]? = _ from h]
theorem RdAt.set {w : World} {b : Nat} {s : ByteArray} (h : RdAt w b s) (t : ByteArray) : RdAt (w.setCell ⟨b, 0, none⟩ (.string t)) b t := by
  have hb : w.heap[b]? = _ := h
  unfold RdAt
  simp [World.setCell, Array.getElem?_modify, hb]
theorem RdAt.below {w w' : World} {b B : Nat} {s : ByteArray} (h : RdAt w b s) (hb : Below B w w') (hB : b < B) : RdAt w' b s := (hb.block b hB).trans h
theorem RdAt.lt {w : World} {b : Nat} {s : ByteArray} (h : RdAt w b s) : b < w.heap.size := by
  rcases Nat.lt_or_ge b w.heap.size with h' | h'
  · exact h'
  · have hb : w.heap[b]? = _ := h
    simp [Array.getElem?_eq_none h'] at hb
theorem gr_below {w w' : World} (h : Below w.heap.size w w') (row : Option Nat) : w.grownBy w' row := ⟨h.os, h.tape, h.output, h.size, fun k hk _ => h.block k hk⟩
theorem gr_set (w : World) (b : Nat) (o : Nat) (v : Value) : w.grownBy (w.setCell ⟨b, o, none⟩ v) (some b) :=
  ⟨rfl, rfl, rfl, by simp [World.setCell], fun k _ hk => Below.heap_setCell _ _ _ _ (fun e => hk (by simp [e]))⟩
theorem RdAt.grown {w w' : World} {b c : Nat} {s : ByteArray} (h : RdAt w b s) (hg : w.grownBy w' (some c)) (hne : b ≠ c) : RdAt w' b s := (hg.block b h.lt (by simpa using hne)).trans h
set_option maxHeartbeats 2000000 in
theorem rNum_ok (b : Nat) (s : ByteArray) (w : World) (h : RdAt w b s) (hs : s.size ≤ 1000000) (he : (vTake s.data.toList).2.2 = 0) :
    Calls Try.prog 48 #[.pointer (some ⟨b, 0, none⟩)] w fun e w' => e = .returned (.int .u64 ((vTake s.data.toList).1 : Nat)) ∧ RdAt w' b (s.extract (vTake s.data.toList).2.1 s.size) ∧ w.grownBy w' (some b) := by
  have ht := fun w => take_any s (by unfold maxLen; omega) w
  have hle := vTake_le s.data.toList he
  have hl : s.data.toList.length = s.size := by simp
  rw [he] at ht
  rw [hl] at hle
  generalize vTake s.data.toList = r at *
  obtain ⟨n, k, e⟩ := r
  dsimp only at *
  obtain ⟨hk, hk1⟩ := hle
  have HT := Lib.hid ht; clear ht
  have c0 := h.cell
  have H := Lib.hid h; clear h
  have HM := Lib.hid (fun w => must_ok 2 w)
  go_enter Try.func48, Try.ntmps48
  go_wp2_with fail
  refine (HT.out _).mono ?_
  rintro e w1 ⟨rfl, b1⟩
  have H1 := Lib.hid (H.out.below b1 H.out.lt)
  have B1 := Lib.hid (gr_below b1 (some b))
  clear b1 c0
  have c0 := H1.out.cell
  have f0 := H1.out.frozen
  go_wp2_with fail
  refine (HM.out _).mono ?_
  rintro e w2 ⟨rfl, rfl⟩
  go_wp2_with fail
  go_ret
  exact ⟨rfl, H1.out.set _, B1.out.trans (gr_set _ b 0 _)⟩
set_option maxHeartbeats 2000000 in
theorem rNum_bad (b : Nat) (s : ByteArray) (w : World) (h : RdAt w b s) (hs : s.size ≤ 1000000) (he : (vTake s.data.toList).2.2 ≠ 0) :
    Calls Try.prog 48 #[.pointer (some ⟨b, 0, none⟩)] w fun e w' => e = thrownE 2 ∧ w.grownBy w' (some b) := by
  have ht := fun w => take_any s (by unfold maxLen; omega) w
  generalize vTake s.data.toList = r at *
  obtain ⟨n, k, e⟩ := r
  dsimp only at *
  have he' : ((e : Int) == 0) = false := by simp; omega
  have HT := Lib.hid ht; clear ht
  have c0 := h.cell
  have H := Lib.hid h; clear h
  have HM := Lib.hid (fun w => must_bad 2 w)
  go_enter Try.func48, Try.ntmps48
  go_wp2_with fail
  refine (HT.out _).mono ?_
  rintro e w1 ⟨rfl, b1⟩
  have B1 := Lib.hid (gr_below b1 (some b))
  clear b1 c0
  go_wp2_with fail
  refine (HM.out _).mono ?_
  rintro e w2 ⟨rfl, rfl⟩
  unfold thrownE
  go_wp2_with fail
  exact ⟨rfl, rfl, B1.out⟩
set_option maxHeartbeats 2000000 in
theorem rCut_ok (b n : Nat) (s : ByteArray) (w : World) (h : RdAt w b s) (hs : s.size ≤ 1000000) (he : n ≤ s.size) :
    Calls Try.prog 49 #[.pointer (some ⟨b, 0, none⟩), .int .u64 (n : Nat)] w fun e w' => e = .returned (.string (s.extract 0 n)) ∧ RdAt w' b (s.extract n s.size) ∧ w.grownBy w' (some b) := by
  have c0 := h.cell
  have f0 := h.frozen
  have H := Lib.hid h; clear h
  have HM := Lib.hid (fun w => must_ok 2 w)
  go_enter Try.func49, Try.ntmps49
  go_wp2_with fail
  refine (HM.out _).mono ?_
  rintro e w1 ⟨rfl, rfl⟩
  go_wp2_with fail
  go_ret
  exact ⟨rfl, H.out.set _, gr_set _ b 0 _⟩
set_option maxHeartbeats 2000000 in
theorem rCut_bad (b n : Nat) (s : ByteArray) (w : World) (h : RdAt w b s) (hs : s.size ≤ 1000000) (he : s.size < n) :
    Calls Try.prog 49 #[.pointer (some ⟨b, 0, none⟩), .int .u64 (n : Nat)] w fun e w' => e = thrownE 2 ∧ w = w' := by
  have hd : decide (n ≤ s.size) = false := by simp; omega
  have c0 := h.cell
  have f0 := h.frozen
  clear h
  have HM := Lib.hid (fun w => must_bad 2 w)
  go_enter Try.func49, Try.ntmps49
  go_wp2_with fail
  refine (HM.out _).mono ?_
  rintro e w1 ⟨rfl, rfl⟩
  unfold thrownE
  go_wp2_with fail
  exact ⟨rfl, rfl, rfl⟩
end Go.Proofs.Ytlkpgefapcfdbaa
