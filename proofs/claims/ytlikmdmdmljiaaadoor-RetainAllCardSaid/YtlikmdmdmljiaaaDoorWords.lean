/- Plain lemmas: the walk's Int-spelled operations on machine words, as operations on UInt8, UInt32, UInt64. No program in sight. -/
import Derived.WalkKit
import Derived.Deep.QuietTactic
import Derived.BigQuiet
import Derived.Deep.Draws
import Derived.Stop.BytesEq
namespace Go.Proofs.YtlikmdmdmljiaaaDoor
open Go.RowKit

theorem x32 (a b : UInt32) : bits .xor .u32 (a.toNat : Int) (b.toNat : Int) = ((a ^^^ b).toNat : Int) := by
  rw [u32_xor _ _ (by omega) (by have := a.toNat_lt; omega) (by omega) (by have := b.toNat_lt; omega)]; simp
theorem x32b (a : UInt32) (b : UInt8) : bits .xor .u32 (a.toNat : Int) (b.toNat : Int) = ((a ^^^ b.toUInt32).toNat : Int) := by
  rw [← x32]; simp
theorem a32 (a b : UInt32) : bits .and .u32 (a.toNat : Int) (b.toNat : Int) = ((a &&& b).toNat : Int) := by
  rw [u32_and _ _ (by omega) (by have := a.toNat_lt; omega) (by omega) (by have := b.toNat_lt; omega)]; simp
theorem o32 (a b : UInt32) : bits .or .u32 (a.toNat : Int) (b.toNat : Int) = ((a ||| b).toNat : Int) := by
  rw [u32_or _ _ (by omega) (by have := a.toNat_lt; omega) (by omega) (by have := b.toNat_lt; omega)]; simp
theorem n32 (a : UInt32) : bits .xor .u32 (4294967295 : Int) (a.toNat : Int) = ((~~~a).toNat : Int) := by
  rw [show (4294967295 : Int) = ((4294967295 : UInt32).toNat : Int) from rfl, x32]
  have : (4294967295 : UInt32) ^^^ a = ~~~a := by
    apply UInt32.toBitVec_inj.1
    simp only [UInt32.toBitVec_xor, UInt32.toBitVec_not]
    exact BitVec.allOnes_xor
  rw [this]
theorem sr32 (a : UInt32) : (a.toNat : Int) / (2 : Int) = ((a >>> 1).toNat : Int) := by
  simp [Nat.shiftRight_eq_div_pow]
theorem ng32 (a : UInt32) : -(a.toNat : Int) % (4294967296 : Int) = ((-a).toNat : Int) := by
  rw [UInt32.toNat_neg]; have := a.toNat_lt; simp [UInt32.size]; omega
theorem take_snoc (s : ByteArray) (k : Nat) (h : k < s.size) : s.data.toList.take (k + 1) = s.data.toList.take k ++ [s[k]] := by
  rw [List.take_succ_eq_append_getElem (by simpa using h)]; rfl
theorem take_all (s : ByteArray) (k : Nat) (h : s.size ≤ k) : s.data.toList.take k = s.data.toList := List.take_of_length_le (by simpa using h)
theorem ret_int {k : IntKind} {a b : Int} (h : a = b) : Ending.returned (.int k a) = .returned (.int k b) := by rw [h]
theorem not_sub32 (c : UInt32) : (4294967295 : Int) - (c.toNat : Int) = ((~~~c).toNat : Int) := by
  rw [UInt32.toNat_not]; have := c.toNat_lt; simp [UInt32.size]; omega
theorem by0 (c : UInt32) : (c.toNat : Int) % (256 : Int) = (c.toUInt8.toNat : Int) := by simp
theorem by1 (c : UInt32) : (c.toNat : Int) / (256 : Int) % (256 : Int) = ((c >>> 8).toUInt8.toNat : Int) := by simp [Nat.shiftRight_eq_div_pow]
theorem by2 (c : UInt32) : (c.toNat : Int) / (65536 : Int) % (256 : Int) = ((c >>> 16).toUInt8.toNat : Int) := by simp [Nat.shiftRight_eq_div_pow]
theorem by3 (c : UInt32) : (c.toNat : Int) / (16777216 : Int) = ((c >>> 24).toUInt8.toNat : Int) := by have := c.toNat_lt; simp [Nat.shiftRight_eq_div_pow]; omega
theorem run_bytes_str {P : Program} (w : World) (src dst e : TypeId) (hs : P.underlying src = some (.slice e)) (he : P.underlying e = some (.int .u8)) (hd : P.underlying dst = some .string) (b off len cap : Nat) (l : List UInt8) (hlen : l.length = len)
    (hcell : ∀ i (h : i < l.length), w.cell? ⟨b, off + i, none⟩ = some (.int .u8 l[i].toNat)) :
    (convert src dst (.slice (some ⟨b, off, none⟩) len cap)).run P w = .ok (.string ⟨l.toArray⟩) w := by
  have := run_convert_bytes_arg (P := P) w src e hs he b off len cap (l.map fun x => (x.toNat : Int)) (by simpa using hlen) (fun i hi => by
    have hi' : i < l.length := by omega
    rw [hcell i hi']; simp [List.getD, hi']) dst hd
  rw [this]
  simp [strOfNums, Function.comp_def]
theorem quiet_same {P : Program} {f : FuncId} {args : Array Value} {w : World} {n : Nat} {v : Value}
    (h : Calls P f args (w.drewN n) fun e w' => e = .returned v ∧ w.drewN n = w') : Calls P f args (w.drewN n) fun e w'' => e = .returned v ∧ ∃ m, w'' = w.drewN m :=
  Calls.quiet_of_same (h.mono fun _ _ ⟨a, b⟩ => ⟨a, b.symm⟩)
theorem toList_append (a b : ByteArray) : (a ++ b).data.toList = a.data.toList ++ b.data.toList := by simp
theorem Below.drewN {B : Nat} {a w : World} (h : Below B a w) (n : Nat) : Below B a (w.drewN n) := h.trans ⟨rfl, rfl, rfl, Nat.le_refl _, fun _ _ => rfl⟩
end Go.Proofs.YtlikmdmdmljiaaaDoor
