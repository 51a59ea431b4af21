/- A frame, whatever is behind, is opened as its text (as in FrameLaws, without Scan). -/
import Derived.Test.YtjgjhjecgdndjaaFrameOpen
import Derived.Test.YtjgjhjecgdndjaaVarintLaws
namespace Go.Proofs.Ytjgjhjecgdndjaa
open Go.RowKit
set_option linter.unusedVariables false
theorem vPutText_eq (s : List UInt8) (h : s.length ≤ 65536) : vPutText s = vPut s.length ++ s := by unfold vPutText; rw [if_neg (by omega)]
theorem vPutText_ne (s : List UInt8) (h : s.length ≤ 65536) : vPutText s ≠ [] := by
  rw [vPutText_eq s h]
  intro e
  have := vPut_pos s.length
  have := congrArg List.length e
  rw [List.length_append, List.length_nil] at this
  omega
theorem fWrap_eq (s : List UInt8) (h : s.length ≤ 65536) : fWrap s = vPutText s ++ crcBytes (crcMore 0 (vPutText s)) := by
  unfold fWrap; rw [if_neg (vPutText_ne s h)]
theorem fWrap_len (s : List UInt8) (h : s.length ≤ 65536) : (fWrap s).length = (vPut s.length).length + s.length + 4 := by
  rw [fWrap_eq s h, vPutText_eq s h]; simp [crcBytes_len]; omega
theorem fOpen_wrap (s behind : List UInt8) (h : s.length ≤ 65536) : fOpen (fWrap s ++ behind) = (s, (fWrap s).length, 0) := by
  have ht := vTakeText_put s (crcBytes (crcMore 0 (vPutText s)) ++ behind) h
  rw [fWrap_eq s h, List.append_assoc]
  unfold fOpen
  rw [ht]
  dsimp only
  rw [if_neg (by simp), if_neg (by simp [crcBytes_len]), if_neg ?_]
  · simp [crcBytes_len]
  · rw [List.take_left, List.drop_left, List.take_left' (by rfl)]
    simp
/-- the frames that bytes have: texts, and how long each one's frame is -/
def fGo : Nat → List UInt8 → List (List UInt8 × Nat)
  | 0, _ => []
  | n + 1, s => if s = [] then [] else if (fOpen s).2.2 ≠ 0 then [] else ((fOpen s).1, (fOpen s).2.1) :: fGo n (s.drop (fOpen s).2.1)
def fSum (l : List (List UInt8 × Nat)) : Nat := (l.map (·.2)).sum
end Go.Proofs.Ytjgjhjecgdndjaa
