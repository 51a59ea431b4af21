/- Plain: sums of 32 bytes, as functions on words. No program in sight. -/
namespace Go.Proofs.Ytkbpkodakfknoaa
def uX (a b : UInt32) : UInt32 := a ^^^ b
def uA (a b : UInt32) : UInt32 := a + b
def uO (a b : UInt32) : UInt32 := a ||| b
def uN (a b : UInt32) : UInt32 := a &&& b
def uR (x : UInt32) (n : Nat) : UInt32 := x >>> UInt32.ofNat n
def uL (x : UInt32) (n : Nat) : UInt32 := x <<< UInt32.ofNat n
def uC (x : UInt32) : UInt32 := ~~~ x
def rotr (x : UInt32) (n : Nat) : UInt32 := uO (uR x n) (uL x (32 - n))
def sg0 (x : UInt32) : UInt32 := uX (uX (rotr x 7) (rotr x 18)) (uR x 3)
def sg1 (x : UInt32) : UInt32 := uX (uX (rotr x 17) (rotr x 19)) (uR x 10)
def shaKs : List UInt32 := [0x428a2f98, 0x71374491, 0xb5c0fbcf, 0xe9b5dba5, 0x3956c25b, 0x59f111f1, 0x923f82a4, 0xab1c5ed5,
  0xd807aa98, 0x12835b01, 0x243185be, 0x550c7dc3, 0x72be5d74, 0x80deb1fe, 0x9bdc06a7, 0xc19bf174,
  0xe49b69c1, 0xefbe4786, 0x0fc19dc6, 0x240ca1cc, 0x2de92c6f, 0x4a7484aa, 0x5cb0a9dc, 0x76f988da,
  0x983e5152, 0xa831c66d, 0xb00327c8, 0xbf597fc7, 0xc6e00bf3, 0xd5a79147, 0x06ca6351, 0x14292967,
  0x27b70a85, 0x2e1b2138, 0x4d2c6dfc, 0x53380d13, 0x650a7354, 0x766a0abb, 0x81c2c92e, 0x92722c85,
  0xa2bfe8a1, 0xa81a664b, 0xc24b8b70, 0xc76c51a3, 0xd192e819, 0xd6990624, 0xf40e3585, 0x106aa070,
  0x19a4c116, 0x1e376c08, 0x2748774c, 0x34b0bcb5, 0x391c0cb3, 0x4ed8aa4a, 0x5b9cca4f, 0x682e6ff3,
  0x748f82ee, 0x78a5636f, 0x84c87814, 0x8cc70208, 0x90befffa, 0xa4506ceb, 0xbef9a3f7, 0xc67178f2]
def shaK (i : Nat) : UInt32 := shaKs.getD i 0
/-- a word of a block's bytes -/
def byteAt (b : List UInt8) (i : Nat) : UInt32 := (b.getD i 0).toUInt32
def be4 (b : List UInt8) (j : Nat) : UInt32 := uO (uO (uO (uL (byteAt b (4 * j)) 24) (uL (byteAt b (4 * j + 1)) 16)) (uL (byteAt b (4 * j + 2)) 8)) (byteAt b (4 * j + 3))
/-- a block's words -/
def wAt (b : List UInt8) (i : Nat) : UInt32 :=
  if h : i < 16 then be4 b i else uA (uA (uA (wAt b (i - 16)) (sg0 (wAt b (i - 15)))) (wAt b (i - 7))) (sg1 (wAt b (i - 2)))
termination_by i
theorem wAt_lo (b : List UInt8) (i : Nat) (h : i < 16) : wAt b i = be4 b i := by rw [wAt, dif_pos h]
theorem wAt_hi (b : List UInt8) (i : Nat) (h : 16 ≤ i) : wAt b i = uA (uA (uA (wAt b (i - 16)) (sg0 (wAt b (i - 15)))) (wAt b (i - 7))) (sg1 (wAt b (i - 2))) := by
  rw [wAt, dif_neg (by omega)]
structure V8 where
  a : UInt32
  b : UInt32
  c : UInt32
  d : UInt32
  e : UInt32
  f : UInt32
  g : UInt32
  h : UInt32
def ch (e f g : UInt32) : UInt32 := uX (uN e f) (uN (uC e) g)
def maj (a b c : UInt32) : UInt32 := uX (uX (uN a b) (uN a c)) (uN b c)
def big1 (e : UInt32) : UInt32 := uX (uX (rotr e 6) (rotr e 11)) (rotr e 25)
def big0 (a : UInt32) : UInt32 := uX (uX (rotr a 2) (rotr a 13)) (rotr a 22)
def tOf (v : V8) (k w : UInt32) : UInt32 := uA (uA (uA (uA v.h (big1 v.e)) (ch v.e v.f v.g)) k) w
def step8 (v : V8) (k w : UInt32) : V8 := ⟨uA (uA (tOf v k w) (big0 v.a)) (maj v.a v.b v.c), v.a, v.b, v.c, uA v.d (tOf v k w), v.e, v.f, v.g⟩
def rounds8 (v : V8) (b : List UInt8) : Nat → V8
  | 0 => v
  | n + 1 => step8 (rounds8 v b n) (shaK n) (wAt b n)
def getV (v : V8) : Nat → UInt32
  | 0 => v.a
  | 1 => v.b
  | 2 => v.c
  | 3 => v.d
  | 4 => v.e
  | 5 => v.f
  | 6 => v.g
  | _ => v.h
def ofF (f : Nat → UInt32) : V8 := ⟨f 0, f 1, f 2, f 3, f 4, f 5, f 6, f 7⟩
/-- a sum behind a block: words by their places -/
def blockF (f : Nat → UInt32) (b : List UInt8) (i : Nat) : UInt32 := uA (f i) (getV (rounds8 (ofF f) b 64) i)
def shaFirst : List UInt32 := [0x6a09e667, 0xbb67ae85, 0x3c6ef372, 0xa54ff53a, 0x510e527f, 0x9b05688c, 0x1f83d9ab, 0x5be0cd19]
-- the program's ways
theorem bit_ch (e f g : UInt32) : uX g (uN e (uX f g)) = ch e f g := by
  unfold ch uX uN uC
  apply UInt32.toBitVec_inj.1
  simp only [UInt32.toBitVec_xor, UInt32.toBitVec_and, UInt32.toBitVec_not]
  apply BitVec.eq_of_getLsbD_eq
  intro i hi
  simp only [BitVec.getLsbD_xor, BitVec.getLsbD_and, BitVec.getLsbD_not, hi, decide_true, Bool.true_and]
  cases e.toBitVec.getLsbD i <;> cases f.toBitVec.getLsbD i <;> cases g.toBitVec.getLsbD i <;> rfl
theorem bit_maj (a b c : UInt32) : uO (uN a b) (uN c (uO a b)) = maj a b c := by
  unfold maj uX uN uO
  apply UInt32.toBitVec_inj.1
  simp only [UInt32.toBitVec_xor, UInt32.toBitVec_and, UInt32.toBitVec_or]
  apply BitVec.eq_of_getLsbD_eq
  intro i hi
  simp only [BitVec.getLsbD_xor, BitVec.getLsbD_and, BitVec.getLsbD_or]
  cases a.toBitVec.getLsbD i <;> cases b.toBitVec.getLsbD i <;> cases c.toBitVec.getLsbD i <;> rfl
theorem uA_assoc (a b c : UInt32) : uA (uA a b) c = uA a (uA b c) := UInt32.add_assoc a b c
theorem uA_comm (a b : UInt32) : uA a b = uA b a := UInt32.add_comm a b
end Go.Proofs.Ytkbpkodakfknoaa
