/- Plain: what comes in, opened: from a reading of an argument to machine words, strings and slices; and 'Sl', a slice that can be read. No program in sight. -/
import Derived.WalkKit
import Derived.ProofKit
import Derived.OpenShut
import Derived.ShutString
import Derived.ChangeOld
import Derived.Below
import Derived.Deep.Slices
import Derived.SizedLaws
namespace Go.Proofs.YtlikmdmdmljiaaaDoor
open Go.ChangeShapes Go.WideShapes Go.ChangeAt Go.RowKit Go.Deep

/-- THE SLICE 'A, n, c' OF ELEMENTS OF k CELLS HOLDS THE CELLS xs. -/
structure Sl (w : World) (A : Option Addr) (n c k : Nat) (xs : List Value) : Prop where
  len : xs.length = n * k
  le : n ≤ c
  cap : c ≤ maxLen
  cells : 0 < n → ∃ b off, A = some ⟨b, off, none⟩ ∧ b < w.heap.size ∧ ∀ j, j < n * k → w.cell? ⟨b, off + j, none⟩ = xs[j]?

theorem Sl.below {w w' : World} {A : Option Addr} {n c k : Nat} {xs : List Value} {B : Nat} (h : Sl w A n c k xs) (hb : Below B w w') (hB : w.heap.size ≤ B) : Sl w' A n c k xs :=
  ⟨h.len, h.le, h.cap, fun hn => by
    obtain ⟨b, off, e, hlt, hc⟩ := h.cells hn
    exact ⟨b, off, e, Nat.lt_of_lt_of_le hlt hb.size, fun j hj => (hb.cell (p := ⟨b, off + j, none⟩) (by simp; omega)).trans (hc j hj)⟩⟩
theorem Sl.at1 {w : World} {A : Option Addr} {n c : Nat} {xs : List Value} (h : Sl w A n c 1 xs) {j : Nat} (hj : j < n) :
    ∃ b off, A = some ⟨b, off, none⟩ ∧ b < w.heap.size ∧ w.cell? ⟨b, off + j, none⟩ = xs[j]? := by
  obtain ⟨b, off, e, hlt, hc⟩ := h.cells (by omega)
  exact ⟨b, off, e, hlt, hc j (by omega)⟩
theorem Sl.nil (w : World) : Sl w none 0 0 1 [] := ⟨rfl, Nat.le_refl _, by unfold maxLen; omega, fun h => absurd h (by omega)⟩

section
variable {H : Type} {enc : TypeId × Value → H} {P : Program} {w : World}
/-- HOW A TYPE'S CELLS OPEN: into some x of α, whose cells are E x, of which Q x is known. -/
def Opens {α : Type} (enc : TypeId × Value → H) (P : Program) (w : World) (t : TypeId) (E : α → List Value) (Q : α → Prop) : Prop :=
  ∀ (fuel : Nat) (cs : List Value) (y : DataW H × List MemPlace), DataW.trod enc P w 0 (fun _ => true) true fuel t cs = some y → ∃ x, cs = E x ∧ Q x

def EInt (k : IntKind) (n : Int) : List Value := [.int k n]
def EU8 (b : UInt8) : List Value := [.int .u8 b.toNat]
def EU16 (b : UInt16) : List Value := [.int .u16 b.toNat]
def EU32 (b : UInt32) : List Value := [.int .u32 b.toNat]
def EU64 (b : UInt64) : List Value := [.int .u64 b.toNat]
def EBool (b : Bool) : List Value := [.bool b]
def EStr (s : ByteArray) : List Value := [.string s]
abbrev SlArg (α : Type) := Option Addr × Nat × Nat × List α
def ESl {α : Type} (x : SlArg α) : List Value := [.slice x.1 x.2.1 x.2.2.1]

theorem opens_i64 {t : TypeId} (ht : P.underlying t = some (.int .i64)) : Opens enc P w t (EInt .i64) (fun n => -9223372036854775808 ≤ n ∧ n ≤ 9223372036854775807) := by
  intro fuel cs y h
  obtain ⟨n, rfl, _, hw⟩ := DataW.trod_int ht h
  refine ⟨n, rfl, ?_⟩
  simp [Lit.wf, IntKind.min, IntKind.max, IntKind.signed, IntKind.bits] at hw
  exact hw
theorem opens_u8 {t : TypeId} (ht : P.underlying t = some (.int .u8)) : Opens enc P w t EU8 (fun _ => True) := by
  intro fuel cs y h
  obtain ⟨n, rfl, _, hw⟩ := DataW.trod_int ht h
  simp [Lit.wf, IntKind.min, IntKind.max, IntKind.signed, IntKind.bits] at hw
  refine ⟨UInt8.ofNat n.toNat, ?_, trivial⟩
  have : ((UInt8.ofNat n.toNat).toNat : Int) = n := by simp; omega
  rw [EU8, this]
theorem opens_u16 {t : TypeId} (ht : P.underlying t = some (.int .u16)) : Opens enc P w t EU16 (fun _ => True) := by
  intro fuel cs y h
  obtain ⟨n, rfl, _, hw⟩ := DataW.trod_int ht h
  simp [Lit.wf, IntKind.min, IntKind.max, IntKind.signed, IntKind.bits] at hw
  refine ⟨UInt16.ofNat n.toNat, ?_, trivial⟩
  have : ((UInt16.ofNat n.toNat).toNat : Int) = n := by simp; omega
  rw [EU16, this]
theorem opens_u32 {t : TypeId} (ht : P.underlying t = some (.int .u32)) : Opens enc P w t EU32 (fun _ => True) := by
  intro fuel cs y h
  obtain ⟨n, rfl, _, hw⟩ := DataW.trod_int ht h
  simp [Lit.wf, IntKind.min, IntKind.max, IntKind.signed, IntKind.bits] at hw
  refine ⟨UInt32.ofNat n.toNat, ?_, trivial⟩
  have : ((UInt32.ofNat n.toNat).toNat : Int) = n := by simp; omega
  rw [EU32, this]
theorem opens_u64 {t : TypeId} (ht : P.underlying t = some (.int .u64)) : Opens enc P w t EU64 (fun _ => True) := by
  intro fuel cs y h
  obtain ⟨n, rfl, _, hw⟩ := DataW.trod_int ht h
  simp [Lit.wf, IntKind.min, IntKind.max, IntKind.signed, IntKind.bits] at hw
  refine ⟨UInt64.ofNat n.toNat, ?_, trivial⟩
  have : ((UInt64.ofNat n.toNat).toNat : Int) = n := by simp; omega
  rw [EU64, this]
theorem opens_bool {t : TypeId} (ht : P.underlying t = some .bool) : Opens enc P w t EBool (fun _ => True) := by
  intro fuel cs y h
  obtain ⟨b, rfl, _⟩ := DataW.trod_bool ht h
  exact ⟨b, rfl, trivial⟩
theorem opens_string {t : TypeId} (ht : P.underlying t = some .string) : Opens enc P w t EStr (fun s => s.size ≤ maxLen) := by
  intro fuel cs y h
  obtain ⟨s, rfl, _, hs⟩ := DataW.trod_string ht h
  exact ⟨s, rfl, hs⟩

/-- pieces of k cells each, one behind the other -/
theorem pieces {α : Type} (E : α → List Value) (Q : α → Prop) (k n : Nat) : ∀ (cs : List Value), cs.length = n * k →
    (∀ i, i < n → ∃ x, (cs.drop (i * k)).take k = E x ∧ Q x) → ∃ xs : List α, xs.length = n ∧ cs = xs.flatMap E ∧ ∀ x ∈ xs, Q x := by
  induction n with
  | zero => intro cs hl _; exact ⟨[], rfl, by simpa using hl, by simp⟩
  | succ n ih =>
    intro cs hl h
    obtain ⟨x, hx, hq⟩ := h 0 (by omega)
    obtain ⟨xs, h1, h2, h3⟩ := ih (cs.drop k) (by rw [List.length_drop, hl, Nat.succ_mul]; omega) (fun i hi => by
      obtain ⟨y, hy⟩ := h (i + 1) (by omega)
      refine ⟨y, ?_⟩
      rw [List.drop_drop]
      rw [show k + i * k = (i + 1) * k by rw [Nat.succ_mul]; omega]
      exact hy)
    refine ⟨x :: xs, by simp [h1], ?_, ?_⟩
    · rw [List.flatMap_cons, ← hx, ← h2]; simp
    · intro y hy
      rcases List.mem_cons.1 hy with rfl | hy
      · exact hq
      · exact h3 y hy

theorem opens_array {α : Type} {t e : TypeId} {n k : Nat} {E : α → List Value} {Q : α → Prop} (ht : P.underlying t = some (.array n e)) (hk : P.cellsOf e = k) (hT : P.cellsOf t = n * k) (he : Opens enc P w e E Q) :
    Opens enc P w t (fun xs : List α => xs.flatMap E) (fun xs => xs.length = n ∧ ∀ x ∈ xs, Q x) := by
  intro fuel cs y h
  obtain ⟨xs, m, _, _, hl, hxl, hi⟩ := DataW.trod_array ht h
  obtain ⟨zs, h1, h2, h3⟩ := pieces E Q k n cs (by rw [hl, hT]) (fun i hin => by
    have := hi i hin
    rw [hk, List.getElem?_eq_getElem (by omega)] at this
    obtain ⟨x, hx, hq⟩ := he _ _ _ this
    exact ⟨x, hx, hq⟩)
  exact ⟨zs, h2, h1, h3⟩

theorem add_block (a : Addr) (i : Nat) : (a.add i).block = a.block := by unfold Addr.add; split <;> rfl
theorem add_eq {b off : Nat} (i : Nat) : (⟨b, off, none⟩ : Addr).add i = ⟨b, off + i, none⟩ := by
  unfold Addr.add; split
  · rename_i h; subst h; rfl
  · rfl

theorem opens_slice {α : Type} {t e : TypeId} {k : Nat} {E : α → List Value} {Q : α → Prop} (ht : P.underlying t = some (.slice e)) (hk : P.cellsOf e = k) (hk0 : 0 < k) (he : Opens enc P w e E Q) :
    Opens enc P w t (ESl (α := α)) (fun x => Sl w x.1 x.2.1 x.2.2.1 k (x.2.2.2.flatMap E) ∧ x.2.2.2.length = x.2.1 ∧ (x.1 = none → x.2.2.1 = 0) ∧ ∀ y ∈ x.2.2.2, Q y) := by
  intro fuel cs y h
  rcases open_slice ht h with ⟨rfl, rfl⟩ | ⟨a, len, cap, m, n, D, Pl, rfl, _, hl, hm, hmm, _, hx⟩
  · exact ⟨(none, 0, 0, []), rfl, ⟨by simp, by simp, by unfold maxLen; simp, fun h => absurd h (by simp)⟩, rfl, fun _ => rfl, by simp⟩
  · obtain rfl : m = cap := by simpa using hmm
    rw [hk] at hx
    -- the cells, as one list
    by_cases h0 : len = 0
    · subst h0
      exact ⟨(some a, 0, m, []), rfl, ⟨by simp, by simp, hm, fun h => absurd h (by simp)⟩, rfl, fun h => by simp at h, by simp⟩
    obtain ⟨c0, hc0, _⟩ := hx 0 (by omega)
    obtain ⟨_, hl0, hcell0⟩ := World.cells?_some hc0
    have hs0 : w.cell? (a.add 0) = c0[0]? := by
      have h2 := hcell0 0 hk0
      rw [Deep.add_add] at h2; simpa using h2
    have hsome : w.cell? (a.add 0) = some (c0[0]'(by omega)) := by rw [hs0]; exact List.getElem?_eq_getElem _
    have hspot : a.spot = none := by
      have := World.cell?_spot hsome
      simpa [Addr.add] using this
    obtain ⟨b, off, sp⟩ := a
    simp only at hspot; subst hspot
    have hb : b < w.heap.size := by
      rcases Nat.lt_or_ge b w.heap.size with h | h
      · exact h
      · simp [Addr.add, World.cell?, Array.getElem?_eq_none h] at hsome
    have each : ∀ i, i < len → ∃ x, (∃ cs', cs' = E x ∧ cs'.length = k ∧ ∀ j, j < k → w.cell? ⟨b, off + (i * k + j), none⟩ = cs'[j]?) ∧ Q x := fun i hi => by
      obtain ⟨cs', h1, h2⟩ := hx i (by omega)
      obtain ⟨x, hx1, hx2⟩ := he _ _ _ h2
      obtain ⟨_, hlen, hcell⟩ := World.cells?_some h1
      refine ⟨x, ⟨cs', hx1, hlen, fun j hj => ?_⟩, hx2⟩
      have := hcell j hj
      rwa [Deep.add_add, add_eq] at this
    have build : ∀ n, n ≤ len → ∃ xs : List α, xs.length = n ∧ (xs.flatMap E).length = n * k ∧ (∀ j, j < n * k → w.cell? ⟨b, off + j, none⟩ = (xs.flatMap E)[j]?) ∧ ∀ x ∈ xs, Q x := by
      intro n
      induction n with
      | zero => intro _; exact ⟨[], rfl, by simp, by simp, by simp⟩
      | succ n ih =>
        intro hn
        obtain ⟨xs, h1, h2, h3, h4⟩ := ih (by omega)
        obtain ⟨x, ⟨cs', hc1, hc2, hc3⟩, hq⟩ := each n (by omega)
        subst hc1
        refine ⟨xs ++ [x], by simp [h1], by simp only [List.flatMap_append, List.length_append, h2]; simp [hc2, Nat.succ_mul], ?_, ?_⟩
        · intro j hj
          rw [List.flatMap_append]
          by_cases hjn : j < n * k
          · rw [List.getElem?_append_left (by omega)]; exact h3 j hjn
          · rw [List.getElem?_append_right (by omega), h2]
            have := hc3 (j - n * k) (by rw [Nat.succ_mul] at hj; omega)
            rw [show n * k + (j - n * k) = j by omega] at this
            simpa using this
        · intro y hy
          rcases List.mem_append.1 hy with hy | hy
          · exact h4 y hy
          · simp at hy; subst hy; exact hq
    obtain ⟨xs, h1, h2, h3, h4⟩ := build len (Nat.le_refl _)
    exact ⟨(some ⟨b, off, none⟩, len, m, xs), rfl, ⟨h2, hl, hm, fun _ => ⟨b, off, rfl, hb, h3⟩⟩, h1, fun h => by simp at h, h4⟩

/-- A parameter that is one cell. -/
theorem top1 {α : Type} {t : TypeId} {v : Value} {d : DataW H} {p : List MemPlace} {E : α → List Value} {Q : α → Prop} (ho : Opens enc P w t E Q) (h : DataW.Trod enc P w 0 (fun _ => true) true t v d p) (hv : ∀ cs, v ≠ .agg cs) :
    ∃ x, [v] = E x ∧ Q x := by
  obtain ⟨fuel, hf⟩ := h
  have e : v.cells.toList = [v] := by
    cases v <;> first | rfl | exact absurd rfl (hv _)
  rw [e] at hf
  exact ho _ _ _ hf
/-- A parameter that is a struct or an array. -/
theorem topA {α : Type} {t : TypeId} {v : Value} {cs : Array Value} {d : DataW H} {p : List MemPlace} {E : α → List Value} {Q : α → Prop} (ho : Opens enc P w t E Q) (h : DataW.Trod enc P w 0 (fun _ => true) true t v d p) (hv : v = .agg cs) :
    ∃ x, v = .agg (E x).toArray ∧ Q x := by
  obtain ⟨fuel, hf⟩ := h
  subst hv
  obtain ⟨x, hx, hq⟩ := ho _ _ _ hf
  refine ⟨x, ?_, hq⟩
  rw [← hx]; simp [Value.cells]
theorem okWide_arr {r : Reach} {b0 : Nat} {t e : TypeId} {n : Nat} {v : Value} (ht : P.underlying t = some (.array n e)) (h : Value.okWide P w r b0 t v) : ∃ cs, v = .agg cs := by
  simp only [Value.okWide, ht] at h
  obtain ⟨cs, h1, _⟩ := h
  exact ⟨cs, h1⟩
theorem okWide_str {r : Reach} {b0 : Nat} {t : TypeId} {fs : Array Field} {v : Value} (ht : P.underlying t = some (.struct fs)) (h : Value.okWide P w r b0 t v) : ∃ cs, v = .agg cs := by
  obtain ⟨cs, h1, _⟩ := okWide_struct ht h
  exact ⟨cs, h1⟩
theorem okWide_one {r : Reach} {b0 : Nat} {t : TypeId} {v : Value} (ht : (match P.underlying t with | some (.struct _) | some (.array _ _) => false | some .bool | some (.int _) | some .string | some (.slice _) => true | _ => false) = true) (h : Value.okWide P w r b0 t v) : ∀ cs, v ≠ .agg cs := by
  intro cs e
  subst e
  simp only [Value.okWide] at h
  split at h <;> simp_all [Cell.okWide, Cell.ok]
end
end Go.Proofs.YtlikmdmdmljiaaaDoor
