/- A hash is equal to itself. -/
import Derived.Test.YtclmnekadlpfkaaShaMem
import Derived.DeepKeys
namespace Go.Proofs.Ytclmnekadlpfkaa
open Go.RowKit
theorem lit_ok (x : UInt32) : (Lit.int .u32 (x.toNat : Int)).wf = true := by
  have := x.toNat_lt
  have h1 : IntKind.u32.min = 0 := by decide
  have h2 : IntKind.u32.max = 4294967295 := by decide
  simp only [Lit.wf, h1, h2, Bool.and_eq_true, decide_eq_true_eq]
  omega
theorem lit_word (x : UInt32) : Try.prog.keyLits 2 22 [.int .u32 (x.toNat : Int)] = some [.int .u32 (x.toNat : Int)] := by
  unfold Program.keyLits
  rw [Try.underlying22]
  show (if IntKind.u32 = IntKind.u32 ∧ (Lit.int .u32 (x.toNat : Int)).wf = true then _ else _) = _
  rw [if_pos ⟨rfl, lit_ok x⟩]
theorem hash_lits (F : Nat → UInt32) : ∃ lx, Try.prog.keyLits 3 24 (cellsOf 8 F).toList = some lx := by
  have h8 : (cellsOf 8 F).toList = [.int .u32 (F 0).toNat, .int .u32 (F 1).toNat, .int .u32 (F 2).toNat, .int .u32 (F 3).toNat, .int .u32 (F 4).toNat, .int .u32 (F 5).toNat, .int .u32 (F 6).toNat, .int .u32 (F 7).toNat] := rfl
  have hp : Try.prog.cellsOf 22 = 1 := by kernel_rfl
  have hq : Try.prog.cellsOf 24 = 8 := by kernel_rfl
  refine ⟨[.int .u32 (F 0).toNat, .int .u32 (F 1).toNat, .int .u32 (F 2).toNat, .int .u32 (F 3).toNat, .int .u32 (F 4).toNat, .int .u32 (F 5).toNat, .int .u32 (F 6).toNat, .int .u32 (F 7).toNat], ?_⟩
  rw [h8]
  unfold Program.keyLits
  rw [Try.underlying24]
  simp only [hp, hq]
  simp [List.range, List.range.loop, List.mapM_cons, lit_word]
theorem hash_eq (F : Nat → UInt32) (w : World) : (binOp .eql 24 (.agg (cellsOf 8 F)) (.agg (cellsOf 8 F))).run Try.prog w = .ok (.bool true) w := by
  rw [run_eql_struct]
  have hk : Try.prog.keyTypeAt 3 24 = true := by kernel_rfl
  obtain ⟨lx, hx⟩ := hash_lits F
  have hf : (Value.agg (cellsOf 8 F)).formed Try.prog 24 = true := by kernel_rfl
  obtain ⟨r, hr, hiff⟩ := run_equalIn_deep (P := Try.prog) 9997 3 24 hk w 3 3 (.agg (cellsOf 8 F)) (.agg (cellsOf 8 F)) lx lx hf hf hx hx
  have : r = true := hiff.2 rfl
  subst this
  rw [show (10000 : Nat) = 9997 + 3 from rfl, hr]
  rfl
end Go.Proofs.Ytclmnekadlpfkaa
