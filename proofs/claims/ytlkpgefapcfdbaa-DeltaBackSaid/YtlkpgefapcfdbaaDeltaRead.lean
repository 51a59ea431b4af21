/- Plain: chapter 33: a delta as bytes, read back; there and back; sizes. -/
import Derived.Test.YtlkpgefapcfdbaaDeltaPlain
namespace Go.Proofs.Ytlkpgefapcfdbaa
set_option linter.unusedVariables false
set_option linter.unusedSimpArgs false
def encP : Part → List UInt8
  | .lit b => vPut (2 * b.length) ++ b
  | .cop n k => vPut (2 * n + 1) ++ vPut k
def mkD (base target : List UInt8) : List UInt8 := vPut base.length ++ (vPut target.length ++ (crcBytes (crcMore 0 target) ++ (mkP base target.length target []).flatMap encP))
/-- the next part, and what is behind it -/
def rdPart (d : List UInt8) : Option (Part × List UInt8) :=
  if (vTake d).2.2 ≠ 0 ∨ (vTake d).1 < 2 then none else
  if (vTake d).1 % 2 = 1 then
    (if (vTake (d.drop (vTake d).2.1)).2.2 ≠ 0 then none else some (.cop ((vTake d).1 / 2) (vTake (d.drop (vTake d).2.1)).1, (d.drop (vTake d).2.1).drop (vTake (d.drop (vTake d).2.1)).2.1))
  else if (d.drop (vTake d).2.1).length < (vTake d).1 / 2 then none else some (.lit ((d.drop (vTake d).2.1).take ((vTake d).1 / 2)), (d.drop (vTake d).2.1).drop ((vTake d).1 / 2))
theorem rdPart_lit (b r : List UInt8) (h1 : 1 ≤ b.length) (h2 : b.length < 9223372036854775808) : rdPart (encP (.lit b) ++ r) = some (.lit b, r) := by
  have hv := vTake_put (2 * b.length) (by omega) (b ++ r)
  unfold rdPart encP
  dsimp only
  rw [List.append_assoc, hv]
  dsimp only
  rw [if_neg (by omega), if_neg (by omega), List.drop_left, Nat.mul_div_cancel_left _ (by decide : 0 < 2), if_neg (by simp), List.take_left, List.drop_left]
theorem rdPart_cop (n k : Nat) (r : List UInt8) (h1 : 1 ≤ n) (h2 : n < 9223372036854775808) (h3 : k < 18446744073709551616) : rdPart (encP (.cop n k) ++ r) = some (.cop n k, r) := by
  have hv := vTake_put (2 * n + 1) (by omega) (vPut k ++ r)
  have hv2 := vTake_put k h3 r
  unfold rdPart encP
  dsimp only
  rw [List.append_assoc, hv]
  dsimp only
  rw [if_neg (by omega), if_pos (by omega), List.drop_left, hv2]
  dsimp only
  rw [if_neg (by omega), List.drop_left, show (2 * n + 1) / 2 = n by omega]
theorem rdPart_enc (base : List UInt8) (m : Nat) (p : Part) (r : List UInt8) (h : goodP base m p) (hm : m < 9223372036854775808) (hb : base.length < 9223372036854775808) : rdPart (encP p ++ r) = some (p, r) := by
  cases p with
  | lit b => exact rdPart_lit b r h.1 (by have := h.2; omega)
  | cop n k =>
    obtain ⟨a, b⟩ := h
    exact rdPart_cop n k r a (by omega) (by omega)
theorem vPut_pos' (n : Nat) (hn : n < 18446744073709551616) : 1 ≤ (vPut n).length := by
  have h := vTake_put n hn []
  have := vTake_le (vPut n ++ []) (by rw [h])
  rw [h] at this
  exact this.2
theorem enc_ne (base : List UInt8) (m : Nat) (p : Part) (r : List UInt8) (h : goodP base m p) (hm : m < 9223372036854775808) (hb : base.length < 9223372036854775808) : encP p ++ r ≠ [] := by
  intro e
  have h1 := rdPart_enc base m p r h hm hb
  rw [e] at h1
  have hv : (vTake []).2.2 ≠ 0 := by decide
  unfold rdPart at h1
  rw [if_pos (.inl hv)] at h1
  cases h1
/-- the head: the base's length, the target's, the checksum, the parts -/
def rdHead (d : List UInt8) : Option (Nat × Nat × List UInt8 × List UInt8) :=
  if (vTake d).2.2 ≠ 0 then none else
  if (vTake (d.drop (vTake d).2.1)).2.2 ≠ 0 ∨ ((d.drop (vTake d).2.1).drop (vTake (d.drop (vTake d).2.1)).2.1).length < 4 then none else
  some ((vTake d).1, (vTake (d.drop (vTake d).2.1)).1, ((d.drop (vTake d).2.1).drop (vTake (d.drop (vTake d).2.1)).2.1).take 4, ((d.drop (vTake d).2.1).drop (vTake (d.drop (vTake d).2.1)).2.1).drop 4)
theorem rdHead_mk (a b : Nat) (sum r : List UInt8) (ha : a < 18446744073709551616) (hb : b < 18446744073709551616) (hs : sum.length = 4) : rdHead (vPut a ++ (vPut b ++ (sum ++ r))) = some (a, b, sum, r) := by
  have h1 := vTake_put a ha (vPut b ++ (sum ++ r))
  have h2 := vTake_put b hb (sum ++ r)
  unfold rdHead
  rw [h1]
  dsimp only
  rw [if_neg (by omega), List.drop_left, h2]
  dsimp only
  rw [List.drop_left, if_neg (by simp [hs]), ← hs, List.take_left, List.drop_left]
/-- the parts put together: the text that is made, and an error's number -/
def apP (base : List UInt8) (b : Nat) (sum : List UInt8) : Nat → List UInt8 → List UInt8 → List UInt8 × Nat
  | 0, _, _ => ([], 0)
  | f + 1, rest, out =>
    if rest = [] then (if out.length < b then ([], 1) else if crcBytes (crcMore 0 out) ≠ sum then ([], 3) else (out, 0))
    else match rdPart rest with
      | none => ([], 2)
      | some (.cop n k, more) => if k > base.length ∨ n > base.length - k ∨ n > b - out.length then ([], 4) else apP base b sum f more (out ++ textP base (.cop n k))
      | some (.lit s, more) => if s.length > b - out.length then ([], 4) else apP base b sum f more (out ++ s)
def apD (base d : List UInt8) : List UInt8 × Nat :=
  match rdHead d with
  | none => ([], 2)
  | some (a, b, sum, rest) => if a ≠ base.length then ([], 10) else if b > 65536 then ([], 4) else apP base b sum (rest.length + 1) rest []
theorem apP_back (base : List UInt8) (m b : Nat) (sum : List UInt8) (hm : m < 9223372036854775808) (hb : base.length < 9223372036854775808) : ∀ (l : List Part) (f : Nat) (out : List UInt8), (∀ p ∈ l, goodP base m p) → (l.flatMap encP).length < f → (out ++ l.flatMap (textP base)).length = b → crcBytes (crcMore 0 (out ++ l.flatMap (textP base))) = sum → apP base b sum f (l.flatMap encP) out = (out ++ l.flatMap (textP base), 0)
  | [], 0, _, _, hf, _, _ => by simp at hf
  | [], f + 1, out, _, _, hlen, hs => by
    simp only [List.flatMap_nil, List.append_nil] at *
    unfold apP
    rw [if_pos rfl, if_neg (by omega), if_neg (by rw [hs]; simp)]
  | p :: l, 0, _, _, hf, _, _ => by simp at hf
  | p :: l, f + 1, out, hg, hf, hlen, hs => by
    have hp := hg p (by simp)
    have hne := enc_ne base m p (l.flatMap encP) hp hm hb
    have hrd := rdPart_enc base m p (l.flatMap encP) hp hm hb
    have hpos : 1 ≤ (encP p).length := by
      refine Nat.one_le_iff_ne_zero.2 fun e => ?_
      exact enc_ne base m p [] hp hm hb (by rw [List.append_nil]; exact List.eq_nil_of_length_eq_zero e)
    rw [List.flatMap_cons] at hf hlen hs
    rw [List.flatMap_cons, List.flatMap_cons]
    rw [List.length_append] at hf
    rw [← List.append_assoc] at hlen hs ⊢
    have ih := apP_back base m b sum hm hb l f (out ++ textP base p) (fun q hq => hg q (by simp [hq])) (by omega) hlen hs
    rw [List.length_append, List.length_append] at hlen
    unfold apP
    rw [if_neg hne, hrd]
    cases p with
    | lit s =>
      dsimp only
      have e : (textP base (Part.lit s)) = s := rfl
      rw [e] at hlen ih
      rw [if_neg (by omega)]
      exact ih
    | cop n k =>
      dsimp only
      have e : (textP base (Part.cop n k)).length = n := by
        have : k + n ≤ base.length := hp.2
        show ((base.drop k).take n).length = n
        simp; omega
      rw [e] at hlen
      have : k + n ≤ base.length := hp.2
      rw [if_neg (by omega)]
      exact ih
theorem apD_back (base target : List UInt8) (h1 : base.length ≤ 65536) (h2 : target.length ≤ 65536) : apD base (mkD base target) = (target, 0) := by
  have ht := mkP_text base target.length target [] (Nat.le_refl _)
  have hg := mkP_good base target.length target.length target [] (Nat.le_refl _) (by simp)
  rw [List.nil_append] at ht
  unfold apD mkD
  rw [rdHead_mk _ _ _ _ (by omega) (by omega) rfl]
  dsimp only
  rw [if_neg (by simp), if_neg (by omega)]
  have := apP_back base target.length target.length (crcBytes (crcMore 0 target)) (by omega) (by omega) (mkP base target.length target []) (((mkP base target.length target []).flatMap encP).length + 1) [] hg (by omega) (by rw [List.nil_append, ht]) (by rw [List.nil_append, ht])
  rw [List.nil_append, ht] at this
  exact this
theorem apD_other (base base' target : List UInt8) (h1 : base.length ≤ 65536) (h2 : target.length ≤ 65536) (h : base.length ≠ base'.length) : apD base' (mkD base target) = ([], 10) := by
  unfold apD mkD
  rw [rdHead_mk _ _ _ _ (by omega) (by omega) rfl]
  dsimp only
  rw [if_pos h]
/-- how many bytes are copied, how many put in -/
def szP : Nat → List UInt8 → Nat → Nat → Nat × Nat × Nat
  | 0, _, _, _ => (0, 0, 0)
  | f + 1, rest, x, y =>
    if rest = [] then (x, y, 0)
    else match rdPart rest with
      | none => (0, 0, 2)
      | some (.cop n k, more) => if n > 65536 ∨ k > 65536 then (0, 0, 2) else szP f more (x + n) y
      | some (.lit s, more) => if s.length > 65536 then (0, 0, 2) else szP f more x (y + s.length)
def szD (d : List UInt8) : Nat × Nat × Nat :=
  match rdHead d with
  | none => (0, 0, 2)
  | some (_, _, _, rest) => szP (rest.length + 1) rest 0 0
theorem szP_back (base : List UInt8) (m : Nat) (hm : m ≤ 65536) (hb : base.length ≤ 65536) : ∀ (l : List Part) (f x y : Nat), (∀ p ∈ l, goodP base m p) → (l.flatMap encP).length < f → szP f (l.flatMap encP) x y = (x + (l.map copied).sum, y + (l.map putIn).sum, 0)
  | [], 0, _, _, _, hf => by simp at hf
  | [], f + 1, x, y, _, _ => by
    unfold szP
    simp
  | p :: l, 0, _, _, _, hf => by simp at hf
  | p :: l, f + 1, x, y, hg, hf => by
    have hp := hg p (by simp)
    have hne := enc_ne base m p (l.flatMap encP) hp (by omega) (by omega)
    have hrd := rdPart_enc base m p (l.flatMap encP) hp (by omega) (by omega)
    have hpos : 1 ≤ (encP p).length := by
      refine Nat.one_le_iff_ne_zero.2 fun e => ?_
      exact enc_ne base m p [] hp (by omega) (by omega) (by rw [List.append_nil]; exact List.eq_nil_of_length_eq_zero e)
    rw [List.flatMap_cons] at hf ⊢
    rw [List.length_append] at hf
    unfold szP
    rw [if_neg hne, hrd, List.map_cons, List.map_cons, List.sum_cons, List.sum_cons]
    cases p with
    | lit s =>
      dsimp only
      have h2 : s.length ≤ m := hp.2
      rw [if_neg (by omega), szP_back base m hm hb l f x (y + s.length) (fun q hq => hg q (by simp [hq])) (by omega)]
      simp [copied, putIn]; omega
    | cop n k =>
      dsimp only
      have h2 : k + n ≤ base.length := hp.2
      rw [if_neg (by omega), szP_back base m hm hb l f (x + n) y (fun q hq => hg q (by simp [hq])) (by omega)]
      simp [copied, putIn]; omega
theorem szD_mk (base target : List UInt8) (h1 : base.length ≤ 65536) (h2 : target.length ≤ 65536) : szD (mkD base target) = (((mkP base target.length target []).map copied).sum, ((mkP base target.length target []).map putIn).sum, 0) ∧ ((mkP base target.length target []).map copied).sum + ((mkP base target.length target []).map putIn).sum = target.length := by
  have ht := mkP_text base target.length target [] (Nat.le_refl _)
  have hg := mkP_good base target.length target.length target [] (Nat.le_refl _) (by simp)
  have hs := sum_parts base target.length _ hg
  rw [List.nil_append] at ht
  rw [ht] at hs
  refine ⟨?_, hs⟩
  unfold szD mkD
  rw [rdHead_mk _ _ _ _ (by omega) (by omega) rfl]
  dsimp only
  rw [szP_back base target.length h2 h1 _ _ 0 0 hg (by omega)]
  simp
/-- of a text to itself nothing is put in -/
theorem mkP_self (t : List UInt8) (h : 8 ≤ t.length) : ((mkP t t.length t []).map putIn).sum = 0 := by
  have hb := best_tail t 0 (by simpa using h)
  rw [List.drop_zero] at hb
  cases t with
  | nil => simp at h
  | cons c t =>
    rw [List.length_cons]
    unfold mkP
    rw [if_neg (by rw [hb]; simp), hb, List.drop_length]
    have : mkP (c :: t) t.length [] [] = [] := by cases t.length <;> simp [mkP, flushP]
    rw [this]
    simp [flushP, putIn]
end Go.Proofs.Ytlkpgefapcfdbaa
