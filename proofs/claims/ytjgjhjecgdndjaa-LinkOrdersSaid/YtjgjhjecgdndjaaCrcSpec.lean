/- Plain: checksums as functions on lists of bytes. No program in sight. -/
namespace Go.Proofs.Ytjgjhjecgdndjaa
/-- one bit -/
def crcF (c : UInt32) : UInt32 := (c >>> 1) ^^^ (2197175160 &&& (-(c &&& 1)))
def crcN : Nat → UInt32 → UInt32
  | 0, c => c
  | n + 1, c => crcF (crcN n c)
/-- one byte -/
def crcB (c : UInt32) (b : UInt8) : UInt32 := crcN 8 (c ^^^ b.toUInt32)
def crcFold (c : UInt32) (l : List UInt8) : UInt32 := l.foldl crcB c
def crcMore (c : UInt32) (l : List UInt8) : UInt32 := ~~~ (crcFold (~~~ c) l)
theorem crcFold_snoc (c : UInt32) (l : List UInt8) (b : UInt8) : crcFold c (l ++ [b]) = crcB (crcFold c l) b := by
  simp [crcFold]
theorem crcFold_append (c : UInt32) (l m : List UInt8) : crcFold c (l ++ m) = crcFold (crcFold c l) m := by
  simp [crcFold]
/-- a checksum as bytes -/
def crcBytes (c : UInt32) : List UInt8 := [c.toUInt8, (c >>> 8).toUInt8, (c >>> 16).toUInt8, (c >>> 24).toUInt8]
end Go.Proofs.Ytjgjhjecgdndjaa
