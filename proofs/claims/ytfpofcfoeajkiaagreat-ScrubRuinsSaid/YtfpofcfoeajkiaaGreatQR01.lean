/- Texts of this claim's author, packed: Args, Structs, Words, CrcSpec, CrcLaws, Builder. Conditions: none. -/
import Derived.WalkKit
import Derived.ProofKit
import Derived.OpenShut
import Derived.ShutString
import Derived.ChangeOld
import Derived.Below
import Derived.Deep.Slices
import Derived.SizedLaws
import Derived.ChangeSame
import Derived.Deep.QuietTactic
import Derived.BigQuiet
import Derived.Deep.Draws
import Derived.Stop.BytesEq
import Derived.Test.YtfpofcfoeajkiaaGreatProg
import Derived.WalkSpells
import Derived.WalkLawsBesides
import Derived.Lib.Hide
import Derived.Lib.Builder
import Derived.Lib.AppendStr
import Derived.Lib.UnsafeStr
import Derived.Lib.Strings
import Derived.Laws.Externs
import Derived.Shelf.Strings.Builder1
/- Plain: what comes in, opened: from a reading of an argument to machine words, strings and slices; and 'Sl', a slice that can be read. No program in sight. -/
namespace Go.Proofs.YtfpofcfoeajkiaaGreat
open Go.ChangeShapes Go.WideShapes Go.ChangeAt Go.RowKit Go.Deep

/-- THE SLICE 'A, n, c' OF ELEMENTS OF k CELLS HOLDS THE CELLS xs. -/
structure Sl (w : World) (A : Option Addr) (n c k : Nat) (xs : List Value) : Prop where
  len : xs.length = n * k
  le : n ≤ c
  cap : c ≤ maxLen
  cells : 0 < n → ∃ b off, A = some ⟨b, off, none⟩ ∧ b < w.heap.size ∧ ∀ j, j < n * k → w.cell? ⟨b, off + j, none⟩ = xs[j]?

theorem Sl.below {w w' : World} {A : Option Addr} {n c k : Nat} {xs : List Value} {B : Nat} (h : Sl w A n c k xs) (hb : Below B w w') (hB : w.heap.size ≤ B) : Sl w' A n c k xs :=
  ⟨h.len, h.le, h.cap, fun hn => by
    obtain ⟨b, off, e, hlt, hc⟩ := h.cells hn
    exact ⟨b, off, e, Nat.lt_of_lt_of_le hlt hb.size, fun j hj => (hb.cell (p := ⟨b, off + j, none⟩) (by simp; omega)).trans (hc j hj)⟩⟩
theorem Sl.at1 {w : World} {A : Option Addr} {n c : Nat} {xs : List Value} (h : Sl w A n c 1 xs) {j : Nat} (hj : j < n) :
    ∃ b off, A = some ⟨b, off, none⟩ ∧ b < w.heap.size ∧ w.cell? ⟨b, off + j, none⟩ = xs[j]? := by
  obtain ⟨b, off, e, hlt, hc⟩ := h.cells (by omega)
  exact ⟨b, off, e, hlt, hc j (by omega)⟩
theorem Sl.nil (w : World) : Sl w none 0 0 1 [] := ⟨rfl, Nat.le_refl _, by unfold maxLen; omega, fun h => absurd h (by omega)⟩

section
variable {H : Type} {enc : TypeId × Value → H} {P : Program} {w : World}
/-- HOW A TYPE'S CELLS OPEN: into some x of α, whose cells are E x, of which Q x is known. -/
def Opens {α : Type} (enc : TypeId × Value → H) (P : Program) (w : World) (t : TypeId) (E : α → List Value) (Q : α → Prop) : Prop :=
  ∀ (fuel : Nat) (cs : List Value) (y : DataW H × List MemPlace), DataW.trod enc P w 0 (fun _ => true) true fuel t cs = some y → ∃ x, cs = E x ∧ Q x

def EInt (k : IntKind) (n : Int) : List Value := [.int k n]
def EU8 (b : UInt8) : List Value := [.int .u8 b.toNat]
def EU16 (b : UInt16) : List Value := [.int .u16 b.toNat]
def EU32 (b : UInt32) : List Value := [.int .u32 b.toNat]
def EU64 (b : UInt64) : List Value := [.int .u64 b.toNat]
def EBool (b : Bool) : List Value := [.bool b]
def EStr (s : ByteArray) : List Value := [.string s]
abbrev SlArg (α : Type) := Option Addr × Nat × Nat × List α
def ESl {α : Type} (x : SlArg α) : List Value := [.slice x.1 x.2.1 x.2.2.1]

theorem opens_i64 {t : TypeId} (ht : P.underlying t = some (.int .i64)) : Opens enc P w t (EInt .i64) (fun n => -9223372036854775808 ≤ n ∧ n ≤ 9223372036854775807) := by
  intro fuel cs y h
  obtain ⟨n, rfl, _, hw⟩ := DataW.trod_int ht h
  refine ⟨n, rfl, ?_⟩
  simp [Lit.wf, IntKind.min, IntKind.max, IntKind.signed, IntKind.bits] at hw
  exact hw
theorem opens_u8 {t : TypeId} (ht : P.underlying t = some (.int .u8)) : Opens enc P w t EU8 (fun _ => True) := by
  intro fuel cs y h
  obtain ⟨n, rfl, _, hw⟩ := DataW.trod_int ht h
  simp [Lit.wf, IntKind.min, IntKind.max, IntKind.signed, IntKind.bits] at hw
  refine ⟨UInt8.ofNat n.toNat, ?_, trivial⟩
  have : ((UInt8.ofNat n.toNat).toNat : Int) = n := by simp; omega
  rw [EU8, this]
theorem opens_u16 {t : TypeId} (ht : P.underlying t = some (.int .u16)) : Opens enc P w t EU16 (fun _ => True) := by
  intro fuel cs y h
  obtain ⟨n, rfl, _, hw⟩ := DataW.trod_int ht h
  simp [Lit.wf, IntKind.min, IntKind.max, IntKind.signed, IntKind.bits] at hw
  refine ⟨UInt16.ofNat n.toNat, ?_, trivial⟩
  have : ((UInt16.ofNat n.toNat).toNat : Int) = n := by simp; omega
  rw [EU16, this]
theorem opens_u32 {t : TypeId} (ht : P.underlying t = some (.int .u32)) : Opens enc P w t EU32 (fun _ => True) := by
  intro fuel cs y h
  obtain ⟨n, rfl, _, hw⟩ := DataW.trod_int ht h
  simp [Lit.wf, IntKind.min, IntKind.max, IntKind.signed, IntKind.bits] at hw
  refine ⟨UInt32.ofNat n.toNat, ?_, trivial⟩
  have : ((UInt32.ofNat n.toNat).toNat : Int) = n := by simp; omega
  rw [EU32, this]
theorem opens_u64 {t : TypeId} (ht : P.underlying t = some (.int .u64)) : Opens enc P w t EU64 (fun _ => True) := by
  intro fuel cs y h
  obtain ⟨n, rfl, _, hw⟩ := DataW.trod_int ht h
  simp [Lit.wf, IntKind.min, IntKind.max, IntKind.signed, IntKind.bits] at hw
  refine ⟨UInt64.ofNat n.toNat, ?_, trivial⟩
  have : ((UInt64.ofNat n.toNat).toNat : Int) = n := by simp; omega
  rw [EU64, this]
theorem opens_bool {t : TypeId} (ht : P.underlying t = some .bool) : Opens enc P w t EBool (fun _ => True) := by
  intro fuel cs y h
  obtain ⟨b, rfl, _⟩ := DataW.trod_bool ht h
  exact ⟨b, rfl, trivial⟩
theorem opens_string {t : TypeId} (ht : P.underlying t = some .string) : Opens enc P w t EStr (fun s => s.size ≤ maxLen) := by
  intro fuel cs y h
  obtain ⟨s, rfl, _, hs⟩ := DataW.trod_string ht h
  exact ⟨s, rfl, hs⟩

/-- pieces of k cells each, one behind the other -/
theorem pieces {α : Type} (E : α → List Value) (Q : α → Prop) (k n : Nat) : ∀ (cs : List Value), cs.length = n * k →
    (∀ i, i < n → ∃ x, (cs.drop (i * k)).take k = E x ∧ Q x) → ∃ xs : List α, xs.length = n ∧ cs = xs.flatMap E ∧ ∀ x ∈ xs, Q x := by
  induction n with
  | zero => intro cs hl _; exact ⟨[], rfl, by simpa using hl, by simp⟩
  | succ n ih =>
    intro cs hl h
    obtain ⟨x, hx, hq⟩ := h 0 (by omega)
    obtain ⟨xs, h1, h2, h3⟩ := ih (cs.drop k) (by rw [List.length_drop, hl, Nat.succ_mul]; omega) (fun i hi => by
      obtain ⟨y, hy⟩ := h (i + 1) (by omega)
      refine ⟨y, ?_⟩
      rw [List.drop_drop]
      rw [show k + i * k = (i + 1) * k by rw [Nat.succ_mul]; omega]
      exact hy)
    refine ⟨x :: xs, by simp [h1], ?_, ?_⟩
    · rw [List.flatMap_cons, ← hx, ← h2]; simp
    · intro y hy
      rcases List.mem_cons.1 hy with rfl | hy
      · exact hq
      · exact h3 y hy

theorem opens_array {α : Type} {t e : TypeId} {n k : Nat} {E : α → List Value} {Q : α → Prop} (ht : P.underlying t = some (.array n e)) (hk : P.cellsOf e = k) (hT : P.cellsOf t = n * k) (he : Opens enc P w e E Q) :
    Opens enc P w t (fun xs : List α => xs.flatMap E) (fun xs => xs.length = n ∧ ∀ x ∈ xs, Q x) := by
  intro fuel cs y h
  obtain ⟨xs, m, _, _, hl, hxl, hi⟩ := DataW.trod_array ht h
  obtain ⟨zs, h1, h2, h3⟩ := pieces E Q k n cs (by rw [hl, hT]) (fun i hin => by
    have := hi i hin
    rw [hk, List.getElem?_eq_getElem (by omega)] at this
    obtain ⟨x, hx, hq⟩ := he _ _ _ this
    exact ⟨x, hx, hq⟩)
  exact ⟨zs, h2, h1, h3⟩

theorem add_block (a : Addr) (i : Nat) : (a.add i).block = a.block := by unfold Addr.add; split <;> rfl
theorem add_eq {b off : Nat} (i : Nat) : (⟨b, off, none⟩ : Addr).add i = ⟨b, off + i, none⟩ := by
  unfold Addr.add; split
  · rename_i h; subst h; rfl
  · rfl

theorem opens_slice {α : Type} {t e : TypeId} {k : Nat} {E : α → List Value} {Q : α → Prop} (ht : P.underlying t = some (.slice e)) (hk : P.cellsOf e = k) (hk0 : 0 < k) (he : Opens enc P w e E Q) :
    Opens enc P w t (ESl (α := α)) (fun x => Sl w x.1 x.2.1 x.2.2.1 k (x.2.2.2.flatMap E) ∧ x.2.2.2.length = x.2.1 ∧ (x.1 = none → x.2.2.1 = 0) ∧ ∀ y ∈ x.2.2.2, Q y) := by
  intro fuel cs y h
  rcases open_slice ht h with ⟨rfl, rfl⟩ | ⟨a, len, cap, m, n, D, Pl, rfl, _, hl, hm, hmm, _, hx⟩
  · exact ⟨(none, 0, 0, []), rfl, ⟨by simp, by simp, by unfold maxLen; simp, fun h => absurd h (by simp)⟩, rfl, fun _ => rfl, by simp⟩
  · obtain rfl : m = cap := by simpa using hmm
    rw [hk] at hx
    -- the cells, as one list
    by_cases h0 : len = 0
    · subst h0
      exact ⟨(some a, 0, m, []), rfl, ⟨by simp, by simp, hm, fun h => absurd h (by simp)⟩, rfl, fun h => by simp at h, by simp⟩
    obtain ⟨c0, hc0, _⟩ := hx 0 (by omega)
    obtain ⟨_, hl0, hcell0⟩ := World.cells?_some hc0
    have hs0 : w.cell? (a.add 0) = c0[0]? := by
      have h2 := hcell0 0 hk0
      rw [Deep.add_add] at h2; simpa using h2
    have hsome : w.cell? (a.add 0) = some (c0[0]'(by omega)) := by rw [hs0]; exact List.getElem?_eq_getElem _
    have hspot : a.spot = none := by
      have := World.cell?_spot hsome
      simpa [Addr.add] using this
    obtain ⟨b, off, sp⟩ := a
    simp only at hspot; subst hspot
    have hb : b < w.heap.size := by
      rcases Nat.lt_or_ge b w.heap.size with h | h
      · exact h
      · simp [Addr.add, World.cell?, Array.getElem?_eq_none h] at hsome
    have each : ∀ i, i < len → ∃ x, (∃ cs', cs' = E x ∧ cs'.length = k ∧ ∀ j, j < k → w.cell? ⟨b, off + (i * k + j), none⟩ = cs'[j]?) ∧ Q x := fun i hi => by
      obtain ⟨cs', h1, h2⟩ := hx i (by omega)
      obtain ⟨x, hx1, hx2⟩ := he _ _ _ h2
      obtain ⟨_, hlen, hcell⟩ := World.cells?_some h1
      refine ⟨x, ⟨cs', hx1, hlen, fun j hj => ?_⟩, hx2⟩
      have := hcell j hj
      rwa [Deep.add_add, add_eq] at this
    have build : ∀ n, n ≤ len → ∃ xs : List α, xs.length = n ∧ (xs.flatMap E).length = n * k ∧ (∀ j, j < n * k → w.cell? ⟨b, off + j, none⟩ = (xs.flatMap E)[j]?) ∧ ∀ x ∈ xs, Q x := by
      intro n
      induction n with
      | zero => intro _; exact ⟨[], rfl, by simp, by simp, by simp⟩
      | succ n ih =>
        intro hn
        obtain ⟨xs, h1, h2, h3, h4⟩ := ih (by omega)
        obtain ⟨x, ⟨cs', hc1, hc2, hc3⟩, hq⟩ := each n (by omega)
        subst hc1
        refine ⟨xs ++ [x], by simp [h1], by simp only [List.flatMap_append, List.length_append, h2]; simp [hc2, Nat.succ_mul], ?_, ?_⟩
        · intro j hj
          rw [List.flatMap_append]
          by_cases hjn : j < n * k
          · rw [List.getElem?_append_left (by omega)]; exact h3 j hjn
          · rw [List.getElem?_append_right (by omega), h2]
            have := hc3 (j - n * k) (by rw [Nat.succ_mul] at hj; omega)
            rw [show n * k + (j - n * k) = j by omega] at this
            simpa using this
        · intro y hy
          rcases List.mem_append.1 hy with hy | hy
          · exact h4 y hy
          · simp at hy; subst hy; exact hq
    obtain ⟨xs, h1, h2, h3, h4⟩ := build len (Nat.le_refl _)
    exact ⟨(some ⟨b, off, none⟩, len, m, xs), rfl, ⟨h2, hl, hm, fun _ => ⟨b, off, rfl, hb, h3⟩⟩, h1, fun h => by simp at h, h4⟩

/-- A parameter that is one cell. -/
theorem top1 {α : Type} {t : TypeId} {v : Value} {d : DataW H} {p : List MemPlace} {E : α → List Value} {Q : α → Prop} (ho : Opens enc P w t E Q) (h : DataW.Trod enc P w 0 (fun _ => true) true t v d p) (hv : ∀ cs, v ≠ .agg cs) :
    ∃ x, [v] = E x ∧ Q x := by
  obtain ⟨fuel, hf⟩ := h
  have e : v.cells.toList = [v] := by
    cases v <;> first | rfl | exact absurd rfl (hv _)
  rw [e] at hf
  exact ho _ _ _ hf
/-- A parameter that is a struct or an array. -/
theorem topA {α : Type} {t : TypeId} {v : Value} {cs : Array Value} {d : DataW H} {p : List MemPlace} {E : α → List Value} {Q : α → Prop} (ho : Opens enc P w t E Q) (h : DataW.Trod enc P w 0 (fun _ => true) true t v d p) (hv : v = .agg cs) :
    ∃ x, v = .agg (E x).toArray ∧ Q x := by
  obtain ⟨fuel, hf⟩ := h
  subst hv
  obtain ⟨x, hx, hq⟩ := ho _ _ _ hf
  refine ⟨x, ?_, hq⟩
  rw [← hx]; simp [Value.cells]
theorem okWide_arr {r : Reach} {b0 : Nat} {t e : TypeId} {n : Nat} {v : Value} (ht : P.underlying t = some (.array n e)) (h : Value.okWide P w r b0 t v) : ∃ cs, v = .agg cs := by
  simp only [Value.okWide, ht] at h
  obtain ⟨cs, h1, _⟩ := h
  exact ⟨cs, h1⟩
theorem okWide_str {r : Reach} {b0 : Nat} {t : TypeId} {fs : Array Field} {v : Value} (ht : P.underlying t = some (.struct fs)) (h : Value.okWide P w r b0 t v) : ∃ cs, v = .agg cs := by
  obtain ⟨cs, h1, _⟩ := okWide_struct ht h
  exact ⟨cs, h1⟩
theorem okWide_one {r : Reach} {b0 : Nat} {t : TypeId} {v : Value} (ht : (match P.underlying t with | some (.struct _) | some (.array _ _) => false | some .bool | some (.int _) | some .string | some (.slice _) => true | _ => false) = true) (h : Value.okWide P w r b0 t v) : ∀ cs, v ≠ .agg cs := by
  intro cs e
  subst e
  simp only [Value.okWide] at h
  split at h <;> simp_all [Cell.okWide, Cell.ok]
end
end Go.Proofs.YtfpofcfoeajkiaaGreat
/- Plain: structs of one-cell fields, opened. -/
namespace Go.Proofs.YtfpofcfoeajkiaaGreat
open Go.ChangeShapes Go.WideShapes Go.ChangeAt Go.RowKit
section
variable {H : Type} {enc : TypeId × Value → H} {P : Program} {w : World}
def ES2 {α0 α1 : Type} (E0 : α0 → List Value) (E1 : α1 → List Value) (x : α0 × α1) : List Value := E0 x.1 ++ (E1 x.2)
theorem opens_struct2 {α0 α1 : Type} {E0 : α0 → List Value} {E1 : α1 → List Value} {Q0 : α0 → Prop} {Q1 : α1 → Prop} {t : TypeId} {f0 f1 : Field}
    (ht : P.underlying t = some (.struct #[f0, f1])) (hc : [P.cellsOf t, f0.offset, P.cellsOf f0.type, f1.offset, P.cellsOf f1.type] = [2, 0, 1, 1, 1])
    (o0 : Opens enc P w f0.type E0 Q0) (o1 : Opens enc P w f1.type E1 Q1) : Opens enc P w t (ES2 E0 E1) (fun x => Q0 x.1 ∧ Q1 x.2) := by
  intro fuel cs y h
  simp only [List.cons.injEq, and_true] at hc
  obtain ⟨c0, c1, c2, c3, c4⟩ := hc
  obtain ⟨xs, n, _, rfl, hl, hlen, hf⟩ := DataW.trod_struct ht h
  match xs, hlen with
  | [y0, y1], _ =>
    have h0 := hf 0 f0 rfl
    have h1 := hf 1 f1 rfl
    rw [c0] at hl
    rw [c1, c2] at h0
    rw [c3, c4] at h1
    match cs, hl with
    | [a0, a1], _ =>
      obtain ⟨x0, e0, q0⟩ := o0 n _ _ h0
      obtain ⟨x1, e1, q1⟩ := o1 n _ _ h1
      refine ⟨(x0, x1), ?_, q0, q1⟩
      show [a0, a1] = E0 x0 ++ (E1 x1)
      rw [← e0, ← e1]
      rfl
def ES3 {α0 α1 α2 : Type} (E0 : α0 → List Value) (E1 : α1 → List Value) (E2 : α2 → List Value) (x : α0 × α1 × α2) : List Value := E0 x.1 ++ (E1 x.2.1 ++ (E2 x.2.2))
theorem opens_struct3 {α0 α1 α2 : Type} {E0 : α0 → List Value} {E1 : α1 → List Value} {E2 : α2 → List Value} {Q0 : α0 → Prop} {Q1 : α1 → Prop} {Q2 : α2 → Prop} {t : TypeId} {f0 f1 f2 : Field}
    (ht : P.underlying t = some (.struct #[f0, f1, f2])) (hc : [P.cellsOf t, f0.offset, P.cellsOf f0.type, f1.offset, P.cellsOf f1.type, f2.offset, P.cellsOf f2.type] = [3, 0, 1, 1, 1, 2, 1])
    (o0 : Opens enc P w f0.type E0 Q0) (o1 : Opens enc P w f1.type E1 Q1) (o2 : Opens enc P w f2.type E2 Q2) : Opens enc P w t (ES3 E0 E1 E2) (fun x => Q0 x.1 ∧ Q1 x.2.1 ∧ Q2 x.2.2) := by
  intro fuel cs y h
  simp only [List.cons.injEq, and_true] at hc
  obtain ⟨c0, c1, c2, c3, c4, c5, c6⟩ := hc
  obtain ⟨xs, n, _, rfl, hl, hlen, hf⟩ := DataW.trod_struct ht h
  match xs, hlen with
  | [y0, y1, y2], _ =>
    have h0 := hf 0 f0 rfl
    have h1 := hf 1 f1 rfl
    have h2 := hf 2 f2 rfl
    rw [c0] at hl
    rw [c1, c2] at h0
    rw [c3, c4] at h1
    rw [c5, c6] at h2
    match cs, hl with
    | [a0, a1, a2], _ =>
      obtain ⟨x0, e0, q0⟩ := o0 n _ _ h0
      obtain ⟨x1, e1, q1⟩ := o1 n _ _ h1
      obtain ⟨x2, e2, q2⟩ := o2 n _ _ h2
      refine ⟨(x0, x1, x2), ?_, q0, q1, q2⟩
      show [a0, a1, a2] = E0 x0 ++ (E1 x1 ++ (E2 x2))
      rw [← e0, ← e1, ← e2]
      rfl
def ES4 {α0 α1 α2 α3 : Type} (E0 : α0 → List Value) (E1 : α1 → List Value) (E2 : α2 → List Value) (E3 : α3 → List Value) (x : α0 × α1 × α2 × α3) : List Value := E0 x.1 ++ (E1 x.2.1 ++ (E2 x.2.2.1 ++ (E3 x.2.2.2)))
theorem opens_struct4 {α0 α1 α2 α3 : Type} {E0 : α0 → List Value} {E1 : α1 → List Value} {E2 : α2 → List Value} {E3 : α3 → List Value} {Q0 : α0 → Prop} {Q1 : α1 → Prop} {Q2 : α2 → Prop} {Q3 : α3 → Prop} {t : TypeId} {f0 f1 f2 f3 : Field}
    (ht : P.underlying t = some (.struct #[f0, f1, f2, f3])) (hc : [P.cellsOf t, f0.offset, P.cellsOf f0.type, f1.offset, P.cellsOf f1.type, f2.offset, P.cellsOf f2.type, f3.offset, P.cellsOf f3.type] = [4, 0, 1, 1, 1, 2, 1, 3, 1])
    (o0 : Opens enc P w f0.type E0 Q0) (o1 : Opens enc P w f1.type E1 Q1) (o2 : Opens enc P w f2.type E2 Q2) (o3 : Opens enc P w f3.type E3 Q3) : Opens enc P w t (ES4 E0 E1 E2 E3) (fun x => Q0 x.1 ∧ Q1 x.2.1 ∧ Q2 x.2.2.1 ∧ Q3 x.2.2.2) := by
  intro fuel cs y h
  simp only [List.cons.injEq, and_true] at hc
  obtain ⟨c0, c1, c2, c3, c4, c5, c6, c7, c8⟩ := hc
  obtain ⟨xs, n, _, rfl, hl, hlen, hf⟩ := DataW.trod_struct ht h
  match xs, hlen with
  | [y0, y1, y2, y3], _ =>
    have h0 := hf 0 f0 rfl
    have h1 := hf 1 f1 rfl
    have h2 := hf 2 f2 rfl
    have h3 := hf 3 f3 rfl
    rw [c0] at hl
    rw [c1, c2] at h0
    rw [c3, c4] at h1
    rw [c5, c6] at h2
    rw [c7, c8] at h3
    match cs, hl with
    | [a0, a1, a2, a3], _ =>
      obtain ⟨x0, e0, q0⟩ := o0 n _ _ h0
      obtain ⟨x1, e1, q1⟩ := o1 n _ _ h1
      obtain ⟨x2, e2, q2⟩ := o2 n _ _ h2
      obtain ⟨x3, e3, q3⟩ := o3 n _ _ h3
      refine ⟨(x0, x1, x2, x3), ?_, q0, q1, q2, q3⟩
      show [a0, a1, a2, a3] = E0 x0 ++ (E1 x1 ++ (E2 x2 ++ (E3 x3)))
      rw [← e0, ← e1, ← e2, ← e3]
      rfl
def ES8 {α0 α1 α2 α3 α4 α5 α6 α7 : Type} (E0 : α0 → List Value) (E1 : α1 → List Value) (E2 : α2 → List Value) (E3 : α3 → List Value) (E4 : α4 → List Value) (E5 : α5 → List Value) (E6 : α6 → List Value) (E7 : α7 → List Value) (x : α0 × α1 × α2 × α3 × α4 × α5 × α6 × α7) : List Value := E0 x.1 ++ (E1 x.2.1 ++ (E2 x.2.2.1 ++ (E3 x.2.2.2.1 ++ (E4 x.2.2.2.2.1 ++ (E5 x.2.2.2.2.2.1 ++ (E6 x.2.2.2.2.2.2.1 ++ (E7 x.2.2.2.2.2.2.2)))))))
theorem opens_struct8 {α0 α1 α2 α3 α4 α5 α6 α7 : Type} {E0 : α0 → List Value} {E1 : α1 → List Value} {E2 : α2 → List Value} {E3 : α3 → List Value} {E4 : α4 → List Value} {E5 : α5 → List Value} {E6 : α6 → List Value} {E7 : α7 → List Value} {Q0 : α0 → Prop} {Q1 : α1 → Prop} {Q2 : α2 → Prop} {Q3 : α3 → Prop} {Q4 : α4 → Prop} {Q5 : α5 → Prop} {Q6 : α6 → Prop} {Q7 : α7 → Prop} {t : TypeId} {f0 f1 f2 f3 f4 f5 f6 f7 : Field}
    (ht : P.underlying t = some (.struct #[f0, f1, f2, f3, f4, f5, f6, f7])) (hc : [P.cellsOf t, f0.offset, P.cellsOf f0.type, f1.offset, P.cellsOf f1.type, f2.offset, P.cellsOf f2.type, f3.offset, P.cellsOf f3.type, f4.offset, P.cellsOf f4.type, f5.offset, P.cellsOf f5.type, f6.offset, P.cellsOf f6.type, f7.offset, P.cellsOf f7.type] = [8, 0, 1, 1, 1, 2, 1, 3, 1, 4, 1, 5, 1, 6, 1, 7, 1])
    (o0 : Opens enc P w f0.type E0 Q0) (o1 : Opens enc P w f1.type E1 Q1) (o2 : Opens enc P w f2.type E2 Q2) (o3 : Opens enc P w f3.type E3 Q3) (o4 : Opens enc P w f4.type E4 Q4) (o5 : Opens enc P w f5.type E5 Q5) (o6 : Opens enc P w f6.type E6 Q6) (o7 : Opens enc P w f7.type E7 Q7) : Opens enc P w t (ES8 E0 E1 E2 E3 E4 E5 E6 E7) (fun x => Q0 x.1 ∧ Q1 x.2.1 ∧ Q2 x.2.2.1 ∧ Q3 x.2.2.2.1 ∧ Q4 x.2.2.2.2.1 ∧ Q5 x.2.2.2.2.2.1 ∧ Q6 x.2.2.2.2.2.2.1 ∧ Q7 x.2.2.2.2.2.2.2) := by
  intro fuel cs y h
  simp only [List.cons.injEq, and_true] at hc
  obtain ⟨c0, c1, c2, c3, c4, c5, c6, c7, c8, c9, c10, c11, c12, c13, c14, c15, c16⟩ := hc
  obtain ⟨xs, n, _, rfl, hl, hlen, hf⟩ := DataW.trod_struct ht h
  match xs, hlen with
  | [y0, y1, y2, y3, y4, y5, y6, y7], _ =>
    have h0 := hf 0 f0 rfl
    have h1 := hf 1 f1 rfl
    have h2 := hf 2 f2 rfl
    have h3 := hf 3 f3 rfl
    have h4 := hf 4 f4 rfl
    have h5 := hf 5 f5 rfl
    have h6 := hf 6 f6 rfl
    have h7 := hf 7 f7 rfl
    rw [c0] at hl
    rw [c1, c2] at h0
    rw [c3, c4] at h1
    rw [c5, c6] at h2
    rw [c7, c8] at h3
    rw [c9, c10] at h4
    rw [c11, c12] at h5
    rw [c13, c14] at h6
    rw [c15, c16] at h7
    match cs, hl with
    | [a0, a1, a2, a3, a4, a5, a6, a7], _ =>
      obtain ⟨x0, e0, q0⟩ := o0 n _ _ h0
      obtain ⟨x1, e1, q1⟩ := o1 n _ _ h1
      obtain ⟨x2, e2, q2⟩ := o2 n _ _ h2
      obtain ⟨x3, e3, q3⟩ := o3 n _ _ h3
      obtain ⟨x4, e4, q4⟩ := o4 n _ _ h4
      obtain ⟨x5, e5, q5⟩ := o5 n _ _ h5
      obtain ⟨x6, e6, q6⟩ := o6 n _ _ h6
      obtain ⟨x7, e7, q7⟩ := o7 n _ _ h7
      refine ⟨(x0, x1, x2, x3, x4, x5, x6, x7), ?_, q0, q1, q2, q3, q4, q5, q6, q7⟩
      show [a0, a1, a2, a3, a4, a5, a6, a7] = E0 x0 ++ (E1 x1 ++ (E2 x2 ++ (E3 x3 ++ (E4 x4 ++ (E5 x5 ++ (E6 x6 ++ (E7 x7)))))))
      rw [← e0, ← e1, ← e2, ← e3, ← e4, ← e5, ← e6, ← e7]
      rfl
end
end Go.Proofs.YtfpofcfoeajkiaaGreat
/- Plain lemmas: the walk's Int-spelled operations on machine words, as operations on UInt8, UInt32, UInt64. No program in sight. -/
namespace Go.Proofs.YtfpofcfoeajkiaaGreat
open Go.RowKit

theorem x32 (a b : UInt32) : bits .xor .u32 (a.toNat : Int) (b.toNat : Int) = ((a ^^^ b).toNat : Int) := by
  rw [u32_xor _ _ (by omega) (by have := a.toNat_lt; omega) (by omega) (by have := b.toNat_lt; omega)]; simp
theorem x32b (a : UInt32) (b : UInt8) : bits .xor .u32 (a.toNat : Int) (b.toNat : Int) = ((a ^^^ b.toUInt32).toNat : Int) := by
  rw [← x32]; simp
theorem a32 (a b : UInt32) : bits .and .u32 (a.toNat : Int) (b.toNat : Int) = ((a &&& b).toNat : Int) := by
  rw [u32_and _ _ (by omega) (by have := a.toNat_lt; omega) (by omega) (by have := b.toNat_lt; omega)]; simp
theorem o32 (a b : UInt32) : bits .or .u32 (a.toNat : Int) (b.toNat : Int) = ((a ||| b).toNat : Int) := by
  rw [u32_or _ _ (by omega) (by have := a.toNat_lt; omega) (by omega) (by have := b.toNat_lt; omega)]; simp
theorem n32 (a : UInt32) : bits .xor .u32 (4294967295 : Int) (a.toNat : Int) = ((~~~a).toNat : Int) := by
  rw [show (4294967295 : Int) = ((4294967295 : UInt32).toNat : Int) from rfl, x32]
  have : (4294967295 : UInt32) ^^^ a = ~~~a := by
    apply UInt32.toBitVec_inj.1
    simp only [UInt32.toBitVec_xor, UInt32.toBitVec_not]
    exact BitVec.allOnes_xor
  rw [this]
theorem sr32 (a : UInt32) : (a.toNat : Int) / (2 : Int) = ((a >>> 1).toNat : Int) := by
  simp [Nat.shiftRight_eq_div_pow]
theorem ng32 (a : UInt32) : -(a.toNat : Int) % (4294967296 : Int) = ((-a).toNat : Int) := by
  rw [UInt32.toNat_neg]; have := a.toNat_lt; simp [UInt32.size]; omega
theorem take_snoc (s : ByteArray) (k : Nat) (h : k < s.size) : s.data.toList.take (k + 1) = s.data.toList.take k ++ [s[k]] := by
  rw [List.take_succ_eq_append_getElem (by simpa using h)]; rfl
theorem take_all (s : ByteArray) (k : Nat) (h : s.size ≤ k) : s.data.toList.take k = s.data.toList := List.take_of_length_le (by simpa using h)
theorem ret_int {k : IntKind} {a b : Int} (h : a = b) : Ending.returned (.int k a) = .returned (.int k b) := by rw [h]
theorem not_sub32 (c : UInt32) : (4294967295 : Int) - (c.toNat : Int) = ((~~~c).toNat : Int) := by
  rw [UInt32.toNat_not]; have := c.toNat_lt; simp [UInt32.size]; omega
theorem by0 (c : UInt32) : (c.toNat : Int) % (256 : Int) = (c.toUInt8.toNat : Int) := by simp
theorem by1 (c : UInt32) : (c.toNat : Int) / (256 : Int) % (256 : Int) = ((c >>> 8).toUInt8.toNat : Int) := by simp [Nat.shiftRight_eq_div_pow]
theorem by2 (c : UInt32) : (c.toNat : Int) / (65536 : Int) % (256 : Int) = ((c >>> 16).toUInt8.toNat : Int) := by simp [Nat.shiftRight_eq_div_pow]
theorem by3 (c : UInt32) : (c.toNat : Int) / (16777216 : Int) = ((c >>> 24).toUInt8.toNat : Int) := by have := c.toNat_lt; simp [Nat.shiftRight_eq_div_pow]; omega
theorem run_bytes_str {P : Program} (w : World) (src dst e : TypeId) (hs : P.underlying src = some (.slice e)) (he : P.underlying e = some (.int .u8)) (hd : P.underlying dst = some .string) (b off len cap : Nat) (l : List UInt8) (hlen : l.length = len)
    (hcell : ∀ i (h : i < l.length), w.cell? ⟨b, off + i, none⟩ = some (.int .u8 l[i].toNat)) :
    (convert src dst (.slice (some ⟨b, off, none⟩) len cap)).run P w = .ok (.string ⟨l.toArray⟩) w := by
  have := run_convert_bytes_arg (P := P) w src e hs he b off len cap (l.map fun x => (x.toNat : Int)) (by simpa using hlen) (fun i hi => by
    have hi' : i < l.length := by omega
    rw [hcell i hi']; simp [List.getD, hi']) dst hd
  rw [this]
  simp [strOfNums, Function.comp_def]
theorem quiet_same {P : Program} {f : FuncId} {args : Array Value} {w : World} {n : Nat} {v : Value}
    (h : Calls P f args (w.drewN n) fun e w' => e = .returned v ∧ w.drewN n = w') : Calls P f args (w.drewN n) fun e w'' => e = .returned v ∧ ∃ m, w'' = w.drewN m :=
  Calls.quiet_of_same (h.mono fun _ _ ⟨a, b⟩ => ⟨a, b.symm⟩)
theorem toList_append (a b : ByteArray) : (a ++ b).data.toList = a.data.toList ++ b.data.toList := by simp
theorem Below.drewN {B : Nat} {a w : World} (h : Below B a w) (n : Nat) : Below B a (w.drewN n) := h.trans ⟨rfl, rfl, rfl, Nat.le_refl _, fun _ _ => rfl⟩
end Go.Proofs.YtfpofcfoeajkiaaGreat
/- Plain: checksums as functions on lists of bytes. No program in sight. -/
namespace Go.Proofs.YtfpofcfoeajkiaaGreat
/-- one bit -/
def crcF (c : UInt32) : UInt32 := (c >>> 1) ^^^ (2197175160 &&& (-(c &&& 1)))
def crcN : Nat → UInt32 → UInt32
  | 0, c => c
  | n + 1, c => crcF (crcN n c)
/-- one byte -/
def crcB (c : UInt32) (b : UInt8) : UInt32 := crcN 8 (c ^^^ b.toUInt32)
def crcFold (c : UInt32) (l : List UInt8) : UInt32 := l.foldl crcB c
def crcMore (c : UInt32) (l : List UInt8) : UInt32 := ~~~ (crcFold (~~~ c) l)
theorem crcFold_snoc (c : UInt32) (l : List UInt8) (b : UInt8) : crcFold c (l ++ [b]) = crcB (crcFold c l) b := by
  simp [crcFold]
theorem crcFold_append (c : UInt32) (l m : List UInt8) : crcFold c (l ++ m) = crcFold (crcFold c l) m := by
  simp [crcFold]
/-- a checksum as bytes -/
def crcBytes (c : UInt32) : List UInt8 := [c.toUInt8, (c >>> 8).toUInt8, (c >>> 16).toUInt8, (c >>> 24).toUInt8]
end Go.Proofs.YtfpofcfoeajkiaaGreat
namespace Go.Proofs.YtfpofcfoeajkiaaGreat
/-- one bit, on BitVec -/
def bvF (c : BitVec 32) : BitVec 32 := (c >>> 1) ^^^ (2197175160#32 &&& (-(c &&& 1#32)))
theorem crcF_bv (c : UInt32) : (crcF c).toBitVec = bvF c.toBitVec := rfl
theorem and_one_bv (c : BitVec 32) : c &&& 1#32 = if c.getLsbD 0 then 1#32 else 0#32 := by
  apply BitVec.eq_of_getLsbD_eq
  intro i hi
  rcases Nat.eq_zero_or_pos i with rfl | h
  · cases h : c.getLsbD 0 <;> simp_all
  · cases h' : c.getLsbD 0 <;> simp [BitVec.getLsbD_one] <;> omega
theorem bvF_eq (c : BitVec 32) : bvF c = if c.getLsbD 0 then (c >>> 1) ^^^ 2197175160#32 else c >>> 1 := by
  unfold bvF
  rw [and_one_bv]
  cases h : c.getLsbD 0 <;> simp
theorem bvF_xor (a b : BitVec 32) : bvF (a ^^^ b) = bvF a ^^^ bvF b := by
  rw [bvF_eq, bvF_eq, bvF_eq, BitVec.getLsbD_xor]
  have hs : (a ^^^ b) >>> 1 = (a >>> 1) ^^^ (b >>> 1) := by
    apply BitVec.eq_of_getLsbD_eq; intro i hi; simp
  rw [hs]
  cases a.getLsbD 0 <;> cases b.getLsbD 0 <;> simp
  · rw [BitVec.xor_assoc]
  · rw [BitVec.xor_assoc, BitVec.xor_comm (b >>> 1), ← BitVec.xor_assoc]
  · rw [BitVec.xor_assoc, BitVec.xor_comm (2197175160#32), BitVec.xor_assoc]; simp
theorem bvF_zero (a : BitVec 32) (h : bvF a = 0#32) : a = 0#32 := by
  rw [bvF_eq] at h
  cases h0 : a.getLsbD 0
  · simp only [h0, Bool.false_eq_true, if_false] at h
    apply BitVec.eq_of_getLsbD_eq
    intro i hi
    rcases Nat.eq_zero_or_pos i with rfl | hp
    · simpa using h0
    · have := congrArg (fun x => x.getLsbD (i - 1)) h
      simp at this
      rw [show 1 + (i - 1) = i by omega] at this
      simpa using this
  · simp only [h0, if_true] at h
    have := congrArg (fun x => x.getLsbD 31) h
    simp at this
theorem crcF_xor (a b : UInt32) : crcF (a ^^^ b) = crcF a ^^^ crcF b := by
  apply UInt32.toBitVec_inj.1
  rw [UInt32.toBitVec_xor, crcF_bv, crcF_bv, crcF_bv, UInt32.toBitVec_xor, bvF_xor]
theorem crcF_zero (a : UInt32) (h : crcF a = 0) : a = 0 := by
  apply UInt32.toBitVec_inj.1
  exact bvF_zero _ (by rw [← crcF_bv, h]; rfl)
theorem crcN_xor (n : Nat) (a b : UInt32) : crcN n (a ^^^ b) = crcN n a ^^^ crcN n b := by
  induction n with
  | zero => rfl
  | succ n ih => rw [crcN, crcN, crcN, ih, crcF_xor]
theorem crcN_zero (n : Nat) (a : UInt32) (h : crcN n a = 0) : a = 0 := by
  induction n with
  | zero => exact h
  | succ n ih => exact ih (crcF_zero _ h)
theorem crcN_add (n m : Nat) (a : UInt32) : crcN n (crcN m a) = crcN (n + m) a := by
  induction n with
  | zero => rw [Nat.zero_add]; rfl
  | succ n ih => rw [Nat.succ_add]; simp only [crcN]; rw [ih]
theorem xor_eq_zero32 {a b : UInt32} (h : a ^^^ b = 0) : a = b := by
  have := congrArg (· ^^^ b) h
  simpa [UInt32.xor_assoc] using this
theorem crcB_xor (c d : UInt32) (a b : UInt8) : crcB (c ^^^ d) (a ^^^ b) = crcB c a ^^^ crcB d b := by
  unfold crcB
  rw [← crcN_xor]
  congr 1
  rw [UInt8.toUInt32_xor, UInt32.xor_assoc, UInt32.xor_assoc, ← UInt32.xor_assoc d, UInt32.xor_comm d, UInt32.xor_assoc]
theorem crcB_inj (c d : UInt32) (b : UInt8) (h : crcB c b = crcB d b) : c = d := by
  have : crcN 8 ((c ^^^ b.toUInt32) ^^^ (d ^^^ b.toUInt32)) = 0 := by
    rw [crcN_xor]; unfold crcB at h; rw [h]; simp
  have := xor_eq_zero32 (crcN_zero _ _ this)
  have := congrArg (· ^^^ b.toUInt32) this
  simpa [UInt32.xor_assoc] using this
theorem crcFold_inj (l : List UInt8) : ∀ (c d : UInt32), crcFold c l = crcFold d l → c = d := by
  induction l with
  | nil => intro c d h; exact h
  | cons b l ih => intro c d h; exact crcB_inj _ _ _ (ih _ _ h)
theorem up8 : ∀ n : Nat, n < 256 → crcN 8 (UInt32.ofNat n <<< 8) = UInt32.ofNat n ∧ crcN 16 (UInt32.ofNat n <<< 16) = UInt32.ofNat n ∧ crcN 24 (UInt32.ofNat n <<< 24) = UInt32.ofNat n := by decide +kernel
theorem up8' (b : UInt8) : crcN 8 (b.toUInt32 <<< 8) = b.toUInt32 ∧ crcN 16 (b.toUInt32 <<< 16) = b.toUInt32 ∧ crcN 24 (b.toUInt32 <<< 24) = b.toUInt32 := by
  have := up8 b.toNat b.toNat_lt
  rwa [show UInt32.ofNat b.toNat = b.toUInt32 by apply UInt32.toNat_inj.1; simp] at this
theorem crcFold_four (a b c d : UInt8) : crcFold 0 [a, b, c, d] = crcN 32 (a.toUInt32 ^^^ b.toUInt32 <<< 8 ^^^ c.toUInt32 <<< 16 ^^^ d.toUInt32 <<< 24) := by
  obtain ⟨b8, _, _⟩ := up8' b
  obtain ⟨_, c16, _⟩ := up8' c
  obtain ⟨_, _, d24⟩ := up8' d
  simp only [crcFold, List.foldl_cons, List.foldl_nil, crcB]
  rw [UInt32.zero_xor, ← b8, ← crcN_xor, crcN_add, ← c16, ← crcN_xor, crcN_add, ← d24, ← crcN_xor, crcN_add]
  rw [b8, c16, d24]
theorem four_zero (a b c d : UInt8) (h : a.toUInt32 ^^^ b.toUInt32 <<< 8 ^^^ c.toUInt32 <<< 16 ^^^ d.toUInt32 <<< 24 = 0) : a = 0 ∧ b = 0 ∧ c = 0 ∧ d = 0 := by
  have hb := congrArg UInt32.toBitVec h
  simp only [UInt32.toBitVec_xor, UInt32.toBitVec_shiftLeft, UInt8.toBitVec_toUInt32] at hb
  have g : ∀ i, i < 32 → (a.toBitVec.getLsbD i ^^ ((!decide (i < 8)) && b.toBitVec.getLsbD (i - 8)) ^^ ((!decide (i < 16)) && c.toBitVec.getLsbD (i - 16)) ^^ ((!decide (i < 24)) && d.toBitVec.getLsbD (i - 24))) = false := by
    intro i hi
    have := congrArg (fun x => x.getLsbD i) hb
    simp [hi] at this
    simpa using this
  refine ⟨?_, ?_, ?_, ?_⟩ <;> apply UInt8.toBitVec_inj.1 <;> apply BitVec.eq_of_getLsbD_eq <;> intro i hi
  · have := g i (by omega)
    simp [show i < 8 by omega, show i < 16 by omega, show i < 24 by omega] at this
    have e : a.toBitVec.getLsbD i = false := by rw [BitVec.getLsbD_eq_getElem hi]; exact this
    simpa using e
  · have := g (i + 8) (by omega)
    simp [show i + 8 < 16 by omega, show i + 8 < 24 by omega] at this
    simpa using this
  · have := g (i + 16) (by omega)
    simp [show i + 16 < 24 by omega] at this
    simpa using this
  · have := g (i + 24) (by omega)
    simp at this
    simpa using this
theorem xor_eq_zero8 {a b : UInt8} (h : a ^^^ b = 0) : a = b := by
  have := congrArg (· ^^^ b) h
  simpa [UInt8.xor_assoc] using this
theorem crcFold_xor4 (c d : UInt32) (a0 a1 a2 a3 b0 b1 b2 b3 : UInt8) : crcFold (c ^^^ d) [a0 ^^^ b0, a1 ^^^ b1, a2 ^^^ b2, a3 ^^^ b3] = crcFold c [a0, a1, a2, a3] ^^^ crcFold d [b0, b1, b2, b3] := by
  simp only [crcFold, List.foldl_cons, List.foldl_nil, crcB_xor]
theorem not_inj32 {a b : UInt32} (h : ~~~a = ~~~b) : a = b := by
  have := congrArg (~~~ ·) h
  simpa using this
theorem crc_one (p s : List UInt8) (a b c d a' b' c' d' : UInt8) :
    (crcMore 0 (p ++ [a, b, c, d] ++ s) = crcMore 0 (p ++ [a', b', c', d'] ++ s)) ↔ [a, b, c, d] = [a', b', c', d'] := by
  constructor
  · intro h
    have h := not_inj32 h
    rw [crcFold_append, crcFold_append, crcFold_append, crcFold_append] at h
    have h := crcFold_inj _ _ _ h
    generalize crcFold (~~~0) p = X at h
    have e : crcFold (X ^^^ X) [a ^^^ a', b ^^^ b', c ^^^ c', d ^^^ d'] = 0 := by rw [crcFold_xor4, h]; simp
    rw [UInt32.xor_self, crcFold_four] at e
    obtain ⟨e0, e1, e2, e3⟩ := four_zero _ _ _ _ (crcN_zero _ _ e)
    rw [xor_eq_zero8 e0, xor_eq_zero8 e1, xor_eq_zero8 e2, xor_eq_zero8 e3]
  · intro h; rw [h]
theorem crcFold_xor3 (l : List (UInt8 × UInt8 × UInt8)) : ∀ (c d e : UInt32), crcFold (c ^^^ d ^^^ e) (l.map fun x => x.1 ^^^ x.2.1 ^^^ x.2.2) = crcFold c (l.map (·.1)) ^^^ crcFold d (l.map (·.2.1)) ^^^ crcFold e (l.map (·.2.2)) := by
  induction l with
  | nil => intro c d e; rfl
  | cons x l ih =>
    intro c d e
    simp only [List.map_cons, crcFold, List.foldl_cons, crcB_xor]
    exact ih _ _ _
theorem not_xor3 (a b c : UInt32) : ~~~a ^^^ ~~~b ^^^ ~~~c = ~~~(a ^^^ b ^^^ c) := by
  simp [UInt32.xor_not, UInt32.not_xor]
theorem crc_linear (l : List (UInt8 × UInt8 × UInt8)) : crcMore 0 (l.map (·.1)) ^^^ crcMore 0 (l.map (·.2.1)) ^^^ crcMore 0 (l.map (·.2.2)) = crcMore 0 (l.map fun x => x.1 ^^^ x.2.1 ^^^ x.2.2) := by
  unfold crcMore
  rw [not_xor3, ← crcFold_xor3]
  congr 2
theorem crc_nine : crcMore 0 [49, 50, 51, 52, 53, 54, 55, 56, 57] = 3808858755 := by decide +kernel
theorem crcMore_nil (c : UInt32) : crcMore c [] = c := by simp [crcMore, crcFold]
theorem crcMore_append (c : UInt32) (l m : List UInt8) : crcMore c (l ++ m) = crcMore (crcMore c l) m := by
  simp [crcMore, crcFold_append]
theorem crcF_cases (c : UInt32) : crcF c = if c.toNat % 2 = 1 then (c >>> 1) ^^^ 2197175160 else c >>> 1 := by
  apply UInt32.toBitVec_inj.1
  rw [crcF_bv, bvF_eq]
  have e : c.toBitVec.getLsbD 0 = decide (c.toNat % 2 = 1) := by
    rw [BitVec.getLsbD, Nat.testBit_zero]; rfl
  rw [e]
  by_cases h : c.toNat % 2 = 1 <;> simp [h]
end Go.Proofs.YtfpofcfoeajkiaaGreat
/- strings.Builder's methods at this dump, by contracts (after the shelf's Builder1, at this program's own numbers). -/
namespace Go.Proofs.YtfpofcfoeajkiaaGreat
open Go.RowKit
theorem bldSize : (Tryz.prog.info? 93).map (·.size) = some 2 := by kernel_rfl
theorem bldLies : liesAt Tryz.prog Tryz.prog.depth 93 (2 / Tryz.prog.cellsOf 93) 0 93 1 = true := by kernel_rfl
theorem bldByte : (Tryz.prog.info? 5).map (fun i => (i.zero, i.size, i.bytes)) = some (some (.int .u8 0), 1, 1) := by kernel_rfl
theorem bldByteC : Tryz.prog.cellsOf 5 = 1 := by kernel_rfl

set_option maxHeartbeats 1000000 in
set_option maxRecDepth 100000 in
theorem bldCheck_used (b : Nat) (w : World) (h0 : w.cell? ⟨b, 0, none⟩ = some (.pointer (some ⟨b, 0, none⟩))) :
    Calls Tryz.prog 80 #[.pointer (some ⟨b, 0, none⟩)] w fun e w' => e = .returned (.tuple #[]) ∧ w = w' := by
  obtain ⟨j, hj, _⟩ := Option.map_eq_some_iff.1 bldSize
  have hne : ∀ w, (binOp .neq 91 (.pointer (some ⟨b, 0, none⟩)) (.pointer (some ⟨b, 0, none⟩))).run Tryz.prog w = .ok (.bool false) w := fun w => Lib.run_neq_ptr_same w _ Tryz.underlying91 hj
  go_enter Tryz.func80, Tryz.ntmps80
  go_wp2
  go_end0
  exact ⟨rfl, rfl⟩
set_option maxHeartbeats 1000000 in
set_option maxRecDepth 100000 in
theorem bldCheck_fresh (b : Nat) (w : World) (h0 : w.cell? ⟨b, 0, none⟩ = some (.pointer none)) (hsh : w.shape? b = some (93, 2)) (hfz : w.frozen? ⟨b, 0, none⟩ = false) :
    Calls Tryz.prog 80 #[.pointer (some ⟨b, 0, none⟩)] w fun e w' => e = .returned (.tuple #[]) ∧ w.setCell ⟨b, 0, none⟩ (.pointer (some ⟨b, 0, none⟩)) = w' := by
  obtain ⟨j, hj, hjs⟩ := Option.map_eq_some_iff.1 bldSize
  have hc : (w.setCell ⟨b, 0, none⟩ (.pointer (some ⟨b, 0, none⟩))).cell? ⟨b, 0, none⟩ = some (.pointer (some ⟨b, 0, none⟩)) := World.cell?_setCell_same' _ _ _ (by rw [h0]; rfl)
  have hne : ∀ w, (binOp .neq 91 (.pointer (some ⟨b, 0, none⟩)) (.pointer (some ⟨b, 0, none⟩))).run Tryz.prog w = .ok (.bool false) w := fun w => Lib.run_neq_ptr_same w _ Tryz.underlying91 hj
  go_enter Tryz.func80, Tryz.ntmps80
  go_wp2
  rw [Lib.run_to_unsafe w ⟨b, 0, none⟩ Tryz.underlying91 Tryz.underlying144 hj (by rw [hjs]; decide) hsh (Nat.zero_lt_succ 1)]
  simp only [Result.andThen]
  rw [Oper.upon_value]
  go_wp2
  rw [run_callFunc_extern Tryz.func102 (by kernel_rfl) (by kernel_rfl) (by kernel_rfl) (e := Extern.AbiNoEscape.same) (by kernel_rfl)]
  rw [Lib.run_noEscape]
  simp only [Result.andThen]
  rw [Oper.upon_value]
  go_wp2
  rw [Lib.run_from_unsafe w ⟨b, 0, none⟩ Tryz.underlying144 Tryz.underlying91 hj hsh bldLies]
  simp only [Result.andThen]
  rw [Oper.upon_value]
  go_wp2
  go_end0
  exact ⟨rfl, rfl⟩
theorem bldCheck (B b : Nat) (bs : List Value) (w : World) (h : Lib.IsBuilder 93 5 B b bs w) :
    Calls Tryz.prog 80 #[.pointer (some ⟨b, 0, none⟩)] w fun e w' => e = .returned (.tuple #[]) ∧ (Lib.BuilderAt 93 5 B b (.pointer (some ⟨b, 0, none⟩)) bs w' ∧ Below B w w') := by
  rcases h with h | h
  · refine (bldCheck_fresh b w h.cell0 h.shape h.frozen0).mono ?_
    rintro e w' ⟨rfl, rfl⟩
    exact ⟨rfl, h.used _, (Below.refl B w).setCell (p := ⟨b, 0, none⟩) h.1 _⟩
  · refine (bldCheck_used b w h.cell0).mono ?_
    rintro e w' ⟨rfl, rfl⟩
    exact ⟨rfl, h, Below.refl B _⟩
set_option maxHeartbeats 2000000 in
set_option maxRecDepth 100000 in
/-- WriteByte -/
theorem bldByte_any (B b : Nat) (bs : List Value) (c : Int) (w : World) (h : Lib.IsBuilder 93 5 B b bs w) (hlen : bs.length + 1 ≤ 140737488355328) (hBw : B ≤ w.heap.size) :
    Calls Tryz.prog 78 #[.pointer (some ⟨b, 0, none⟩), .int .u8 c] w fun e w' => e = .returned .nilIface ∧ (Lib.BuilderAt 93 5 B b (.pointer (some ⟨b, 0, none⟩)) (bs ++ [.int .u8 c]) w' ∧ Below B w w') := by
  obtain ⟨i0, hi, hz0, hz1, hz2⟩ := info_parts bldByte
  go_enter Tryz.func78, Tryz.ntmps78
  go_wp2_with (go_at_call 80; refine (bldCheck B b bs _ h).mono ?_)
  rintro e w1 ⟨rfl, h1, hb1⟩
  obtain ⟨hB, v, hbk, hown, hne⟩ := h1
  have c0 : w1.cell? ⟨b, 0, none⟩ = some (.pointer (some ⟨b, 0, none⟩)) := by rw [Lib.cell_of_heap hbk]; rfl
  have c1 : w1.cell? ⟨b, 1, none⟩ = some v := by rw [Lib.cell_of_heap hbk]; rfl
  go_wp2_with (at_builtin; refine wpList_append_own _ rfl _ _ 83 rfl B 5 i0 (.int .u8 0) 1 1 Tryz.underlying83 hi hz0 hz1 hz2 rfl (by decide) _ _ _ rfl (hown.alloc _) ⟨w1.heap.size, 0, none⟩ 1 1 [.int .u8 c] rfl rfl ?c1 ?c2 ?c3 ?c4 ?c5 ?_)
  case c1 =>
    intro j u hj
    match j, hj with
    | 0, hj => simp at hj; subst hj; simp [Addr.add]
  case c2 => intro u hu; simp at hu; subst hu; rfl
  case c3 => unfold maxLen; omega
  case c4 => omega
  case c5 => have := hb1.size; simp; omega
  intro v' w2 hown' hgrow _
  have hlt : b < w1.heap.size := by
    rcases Nat.lt_or_ge b w1.heap.size with h' | h'
    · exact h'
    · simp [Array.getElem?_eq_none h'] at hbk
  have hb2 : w2.heap[b]? = some (.cells #[.pointer (some ⟨b, 0, none⟩), v] 93 (0, 0)) := by
    rw [hgrow.block b (by simp; omega) (fun e => hne e.symm), Lib.alloc_old w1 _ b hlt]
    exact hbk
  have d0 : w2.cell? ⟨b, 0, none⟩ = some (.pointer (some ⟨b, 0, none⟩)) := by rw [Lib.cell_of_heap hb2]; rfl
  have d1 : w2.cell? ⟨b, 1, none⟩ = some v := by rw [Lib.cell_of_heap hb2]; rfl
  have f1 : w2.frozen? ⟨b, 1, none⟩ = false := Lib.frozen_of_heap hb2 1
  obtain ⟨g, cap, rfl⟩ : ∃ g cap, v' = .slice (some ⟨g, 0, none⟩) (bs.length + 1) cap := by
    rcases hown'.2 with ⟨_, h0⟩ | ⟨g, cap, cur, hv, _⟩
    · omega
    · exact ⟨g, cap, hv⟩
  go_wp2
  go_ret
  refine ⟨rfl, ?_, ?_⟩
  · exact Lib.BuilderAt.put (T := 93) (e := 5) hB hb2 (bs' := bs ++ [.int .u8 c]) (by simpa using hown') (by decide)
  · exact ((hb1.alloc (by have := hb1.size; omega) _).grown hgrow (by have := hb1.size; simp; omega) (fun k hk => (hown.lt k hk).1)).setCell (p := ⟨b, 1, none⟩) hB _
set_option maxHeartbeats 1000000 in
set_option maxRecDepth 100000 in
/-- String, of a builder that holds a byte -/
theorem bldString_some (B b : Nat) (l : List UInt8) (w : World) (h : Lib.IsBuilder 93 5 B b (Lib.byteCells l) w) (h0 : l ≠ []) :
    Calls Tryz.prog 53 #[.pointer (some ⟨b, 0, none⟩)] w fun e w' => e = .returned (.string ⟨l.toArray⟩) ∧ Below B w w' := by
  obtain ⟨p, hB, v, hbk, hown, hne⟩ : ∃ p, Lib.BuilderAt 93 5 B b p (Lib.byteCells l) w := by
    rcases h with h | h
    · exact ⟨_, h⟩
    · exact ⟨_, h⟩
  have hl0 : l.length ≠ 0 := by simpa using h0
  rw [Lib.byteCells_length] at hown
  obtain ⟨g, cap, cur, rfl, hbg, hg, hnc, hcm, hcs, htake⟩ : ∃ g cap cur, v = .slice (some ⟨g, 0, none⟩) l.length cap ∧ B ≤ g ∧ w.heap[g]? = some (.cells cur 5 (0, 0)) ∧ l.length ≤ cap ∧ cap ≤ maxLen ∧ cur.size = cap * 1 ∧ cur.toList.take (l.length * 1) = Lib.byteCells l := by
    rcases hown.2 with ⟨_, hz⟩ | ⟨g, cap, cur, hv, r⟩
    · exact absurd hz hl0
    · exact ⟨g, cap, cur, hv, r⟩
  have c1 : w.drew.cell? ⟨b, 1, none⟩ = some (.slice (some ⟨g, 0, none⟩) l.length cap) := by
    have : w.drew.heap[b]? = some (.cells #[p, .slice (some ⟨g, 0, none⟩) l.length cap] 93 (0, 0)) := hbk
    rw [Lib.cell_of_heap this]; rfl
  have hSD : (Builtin.unsafeSliceData_ #[83] 123 #[.slice (some ⟨g, 0, none⟩) l.length cap]).run Tryz.prog w.drew = .ok (.pointer (some ⟨g, 0, none⟩)) w.drew :=
    Lib.run_unsafeSliceData_row _ _ _ _ _ _ (by omega)
  have hUS : (Builtin.unsafeString_ #[123, 3] 9 #[.pointer (some ⟨g, 0, none⟩), .int .i64 l.length]).run Tryz.prog w.drew = .ok (.string ⟨l.toArray⟩) (w.drew.freeze ⟨g, 0, none⟩ l.length) := by
    refine Lib.run_unsafeString_row w.drew 123 3 9 5 Tryz.underlying123 bldByteC g cur.size (by have hg' : w.drew.heap[g]? = some (.cells cur 5 (0, 0)) := hg; simp [World.shape?, hg']) l h0 (by omega) (by unfold maxLen at hcm; omega) ?_
    intro j x hx
    have := hown.cells (g := g) rfl j (.int .u8 x.toNat) (by simp [Lib.byteCells, hx])
    exact this
  go_enter Tryz.func53, Tryz.ntmps53
  go_wp2
  go_region
  all_goals (go_wp2; go_ret; exact ⟨rfl, Lib.below_freeze (Below.drew (Below.refl B w)) (p := ⟨g, 0, none⟩) hbg _⟩)
theorem isBuilder_len {T e : TypeId} {B b : Nat} {bs : List Value} {w : World} (h : Lib.IsBuilder T e B b bs w) : ∃ p v, w.heap[b]? = some (.cells #[p, v] T (0, 0)) ∧ w.ownsRow B e 1 v bs.length bs := by
  rcases h with ⟨_, v, h1, h2, _⟩ | ⟨_, v, h1, h2, _⟩
  · exact ⟨_, v, h1, h2⟩
  · exact ⟨_, v, h1, h2⟩
/-- a builder: fresh, of a block that was just laid -/
def isBld (w : World) (b : Nat) (l : List UInt8) : Prop := Lib.IsBuilder 93 5 b b (Lib.byteCells l) w
theorem isBld_fresh (w : World) : isBld (w.alloc (.cells #[.pointer none, .slice none 0 0] 93)) w.heap.size [] := Lib.fresh_isBuilder _ _ _
theorem bldByte_ok (b : Nat) (l : List UInt8) (c : UInt8) (w : World) (h : isBld w b l) (hlen : l.length + 1 ≤ 140737488355328) (hBw : b ≤ w.heap.size) :
    Calls Tryz.prog 78 #[.pointer (some ⟨b, 0, none⟩), .int .u8 c.toNat] w fun e w' => e = .returned .nilIface ∧ isBld w' b (l ++ [c]) ∧ Below b w w' := by
  refine (bldByte_any b b _ _ w h (by rw [Lib.byteCells_length]; exact hlen) hBw).mono ?_
  rintro e w' ⟨he, hb, hw⟩
  refine ⟨he, Or.inr ?_, hw⟩
  rw [show Lib.byteCells (l ++ [c]) = Lib.byteCells l ++ [.int .u8 c.toNat] by simp [Lib.byteCells]]
  exact hb
theorem bldString_ok (b : Nat) (l : List UInt8) (w : World) (h : isBld w b l) (h0 : l ≠ []) :
    Calls Tryz.prog 53 #[.pointer (some ⟨b, 0, none⟩)] w fun e w' => e = .returned (.string ⟨l.toArray⟩) ∧ Below b w w' := bldString_some b b l w h h0
end Go.Proofs.YtfpofcfoeajkiaaGreat
