/- Four rows of bytes of the call's own, each written on by one byte, in any order: what holds between. -/
import Derived.Test.YtbamekfebfcleaaCrc
import Derived.Maps.AppendAt
namespace Go.Proofs.Ytbamekfebfcleaa
open Go.RowKit
set_option linter.unusedVariables false
set_option linter.unusedSimpArgs false
theorem byteInfoF : (Try.prog.info? 5).map (fun i => (i.zero, i.size, i.bytes)) = some (some (.int .u8 0), 1, 1) := by kernel_rfl
def encU (x : UInt8) : Value := .int .u8 x.toNat
/-- two rows of the call's own lie apart -/
def ApartF (v u : Value) : Prop := v.ownBlock = none ∨ u.ownBlock = none ∨ v.ownBlock ≠ u.ownBlock
theorem ApartF.kept {v u : Value} (h : ApartF v u) : u.ownBlock = none ∨ u.ownBlock ≠ v.ownBlock := by
  rcases h with e | e | e
  · by_cases e2 : u.ownBlock = none
    · exact .inl e2
    · exact .inr (by rw [e]; exact e2)
  · exact .inl e
  · exact .inr (fun e2 => e e2.symm)
theorem ApartF.symm {v u : Value} (h : ApartF v u) : ApartF u v := by
  rcases h with e | e | e
  · exact .inr (.inl e)
  · exact .inl e
  · exact .inr (.inr (fun e2 => e e2.symm))
theorem ApartF.grow {v v' u : Value} {n : Nat} (h : ApartF v u) (hv : v'.ownBlock = v.ownBlock ∨ v'.ownBlock = some n) (hu : ∀ b, u.ownBlock = some b → b < n) : ApartF v' u := by
  rcases hv with e | e
  · unfold ApartF; rw [e]; exact h
  · cases hb : u.ownBlock with
    | none => exact .inr (.inl hb)
    | some b => exact .inr (.inr (by rw [e, hb]; intro e2; injection e2 with e2; have := hu b hb; omega))
theorem wp_append_own_atF {P : Program} {w : World} {o : Oper} {a : Act} {K : Act → World → Prop} {Q : Exit → Act → World → Prop} (s x : Operand) (t : TypeId)
    (ho : o.op = .call { callee := .builtin .append, args := #[s, x], argTypes := #[t, t] })
    (base : Nat) (e : TypeId) (i : TypeInfo) (z : Value) (size bytes : Nat) (ht : P.underlying t = some (.slice e)) (hi : P.info? e = some i) (hz : i.zero = some z)
    (hsize : i.size = size) (hby : i.bytes = bytes) (hzs : z.cells.size = size) (hsz : 0 < size)
    (v : Value) (n : Nat) (xs : List Value) (hs : a.eval s = v) (hown : w.ownsRow base e size v n xs)
    (ad : Addr) (m c : Nat) (news : List Value) (hx : a.eval x = .slice (some ad) m c) (hl : news.length = m * size) (hnews : ∀ j u, news[j]? = some u → w.cell? (ad.add j) = some u) (h1 : ∀ u ∈ news, u.oneCell' = true)
    (h63 : n + m ≤ maxLen) (hbytes : (n + m) * bytes ≤ 140737488355328) (hbase : base ≤ w.heap.size)
    (h : ∀ v' w', w'.ownsRow base e size v' (n + m) (xs ++ news) → w.grownBy w' v.ownBlock → (v'.ownBlock = v.ownBlock ∨ v'.ownBlock = some w.heap.size) → K (a.put o.dst v') w') : o.wp P a w K Q := by
  obtain ⟨v', w', hr, h2, h3, h4, h5⟩ := run_append_own_at (P := P) w base t o.type e i z size bytes ht hi hz hsize hby hzs hsz v n xs hown ad m c news hl hnews h1 h63 hbytes hbase
  unfold Oper.wp execOp
  simp only [ho, resolve, invoke, builtin, Sem.run_bind, Sem.run_pure, Result.andThen_ok, List.map_toArray, List.map_cons, List.map_nil, hs, hx, hr]
  exact h v' w' h2 h3 h5
/-- a function but for one place -/
def updF {α : Type} (f : Nat → α) (j : Nat) (x : α) (i : Nat) : α := if i = j then x else f i
def rowF (l : Nat → List UInt8) (y : Nat → UInt8) (a : Nat → Bool) (j : Nat) : List UInt8 := if a j = true then l j ++ [y j] else l j
/-- what holds between: b: whose byte is laid in a block; a: whose row is written on; v the rows, s the bytes' blocks -/
structure Four (w0 w : World) (b a : Nat → Bool) (v s : Nat → Value) (l : Nat → List UInt8) (y : Nat → UInt8) : Prop where
  rows : ∀ j, j < 4 → w.ownsRow w0.heap.size 5 1 (v j) (rowF l y a j).length ((rowF l y a j).map encU)
  apart : ∀ j k, j < 4 → k < 4 → j ≠ k → ApartF (v j) (v k)
  built : ∀ j, j < 4 → b j = true → a j = false → ∃ g c, s j = .slice (some ⟨g, 0, none⟩) 1 c ∧ w.cell? ⟨g, 0, none⟩ = some (encU (y j)) ∧ g < w.heap.size ∧ ∀ k, k < 4 → (v k).ownBlock ≠ some g
  below : Below w0.heap.size w0 w
theorem Four.build {w0 w : World} {b a : Nat → Bool} {v s : Nat → Value} {l : Nat → List UInt8} {y : Nat → UInt8} (h : Four w0 w b a v s l y) (i : Nat) (hi : i < 4) (hb : b i = false) (c : Nat) :
    Four w0 (w.alloc (.cells #[encU (y i)] 5)) (updF b i true) a v (updF s i (.slice (some ⟨w.heap.size, 0, none⟩) 1 c)) l y := by
  have hlt : ∀ k, k < 4 → ∀ g, (v k).ownBlock = some g → g < w.heap.size := fun k hk g hg => ((h.rows k hk).lt g hg).2
  refine ⟨fun j hj => (h.rows j hj).alloc _, h.apart, fun j hj hbj haj => ?_, h.below.alloc h.below.size _⟩
  unfold updF at hbj ⊢
  by_cases e : j = i
  · subst e
    rw [if_pos rfl]
    refine ⟨w.heap.size, c, rfl, by simp, by simp, fun k hk e => ?_⟩
    have := hlt k hk _ e
    omega
  · rw [if_neg e] at hbj ⊢
    obtain ⟨g, c', e1, e2, e3, e4⟩ := h.built j hj hbj haj
    exact ⟨g, c', e1, (World.cell?_alloc_lt _ _ _ e3).trans e2, by simp; omega, e4⟩
theorem Four.push {w0 w w' : World} {b a : Nat → Bool} {v s : Nat → Value} {l : Nat → List UInt8} {y : Nat → UInt8} (h : Four w0 w b a v s l y) (i : Nat) (hi : i < 4) (ha : a i = false) {v' : Value}
    (hown : w'.ownsRow w0.heap.size 5 1 v' ((l i).length + 1) ((l i).map encU ++ [encU (y i)])) (hg : w.grownBy w' (v i).ownBlock) (hv : v'.ownBlock = (v i).ownBlock ∨ v'.ownBlock = some w.heap.size) :
    Four w0 w' b (updF a i true) (updF v i v') s l y := by
  have hlt : ∀ k, k < 4 → ∀ g, (v k).ownBlock = some g → g < w.heap.size := fun k hk g hg => ((h.rows k hk).lt g hg).2
  refine ⟨fun j hj => ?_, fun j k hj hk hjk => ?_, fun j hj hbj haj => ?_, h.below.grown hg h.below.size (fun k hk => ((h.rows i hi).lt k hk).1)⟩
  · by_cases e : j = i
    · subst e
      have e1 : rowF l y (updF a j true) j = l j ++ [y j] := by unfold rowF updF; simp
      have e2 : updF v j v' j = v' := by unfold updF; simp
      rw [e1, e2]; simpa using hown
    · have e1 : rowF l y (updF a i true) j = rowF l y a j := by unfold rowF updF; rw [if_neg e]
      have e2 : updF v i v' j = v j := by unfold updF; rw [if_neg e]
      rw [e1, e2]
      exact (h.rows j hj).kept hg (h.apart i j hi hj (fun e' => e e'.symm)).kept
  · unfold updF
    by_cases e : j = i
    · subst e
      rw [if_pos rfl, if_neg (fun e' => hjk e'.symm)]
      exact (h.apart j k hj hk hjk).grow hv (hlt k hk)
    · rw [if_neg e]
      by_cases e2 : k = i
      · subst e2
        rw [if_pos rfl]
        exact ((h.apart k j hk hj (fun e' => hjk e'.symm)).grow hv (hlt j hj)).symm
      · rw [if_neg e2]; exact h.apart j k hj hk hjk
  · have hne : j ≠ i := fun e => by subst e; unfold updF at haj; simp at haj
    have haj' : a j = false := by unfold updF at haj; rwa [if_neg hne] at haj
    obtain ⟨g, c', e1, e2, e3, e4⟩ := h.built j hj hbj haj'
    refine ⟨g, c', e1, (hg.cell (a := ⟨g, 0, none⟩) e2 (fun e => e4 i hi e.symm)), Nat.lt_of_lt_of_le e3 hg.size, fun k hk => ?_⟩
    unfold updF
    by_cases e : k = i
    · rw [if_pos e]
      rcases hv with e5 | e5
      · rw [e5]; exact e4 i hi
      · rw [e5]; intro e6; injection e6 with e6; omega
    · rw [if_neg e]; exact e4 k hk
end Go.Proofs.Ytbamekfebfcleaa
