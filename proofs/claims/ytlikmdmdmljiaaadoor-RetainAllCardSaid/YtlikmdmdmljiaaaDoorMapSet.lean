/- A map from texts to bools that a call made itself, as a set: what it tells, what comes of a store of true. -/
import Derived.Test.YtlikmdmdmljiaaaDoorStrs
import Derived.Maps.Own
import Derived.Maps.OwnSet
namespace Go.Proofs.YtlikmdmdmljiaaaDoor
open Go.RowKit Go.Maps Go.WideMaps
set_option linter.unusedVariables false
/-- block b is a map of at most n keys that tells true of just those of S -/
def SetM (w : World) (b n : Nat) (S : ByteArray → Bool) : Prop :=
  ∃ D : DataW Unit, w.ownsMap Tryd.prog 9 (plainElem Tryd.prog 4) b n D ∧ ∀ s : ByteArray, s.size ≤ maxLen → D.atKey (.string s.data.toList) (.lit (.bool false)) = .lit (.bool (S s))
theorem strKeyed : Keyed Tryd.prog 9 := string_keyed Tryd.underlying9
theorem boolZero (w : World) : (zeroValue 4).run Tryd.prog w = .ok (.bool false) w := by kernel_rfl
theorem strKey (s : ByteArray) (h : s.size ≤ maxLen) : keyOf Tryd.prog 9 (.string s) = some (.string s.data.toList) := keyOf_string_mk Tryd.underlying9 h
theorem plainElem_bool_inv {P : Program} {e : TypeId} (he : P.underlying e = some .bool) {v : Value} {x : DataW Unit} {ps : List MemPlace} (h : plainElem P e v = some (x, ps)) {c : Bool} (hx : x = .lit (.bool c)) : v = .bool c := by
  unfold plainElem at h
  rw [he] at h
  cases v <;> simp at h
  rw [← h.1] at hx
  injection hx with hx
  injection hx with hx
  rw [hx]
theorem SetM.look {w : World} {b n : Nat} {S : ByteArray → Bool} (h : SetM w b n S) (s : ByteArray) (hs : s.size ≤ maxLen) : (Instr.lookup 62 (.map (some b)) (.string s) false).run Tryd.prog w = .ok (.bool (S s)) w := by
  obtain ⟨D, h1, h2⟩ := h
  obtain ⟨v, ps, hrun, hv⟩ := h1.lookup (t := 62) (e := 4) strKeyed Tryd.underlying62 (boolZero w) (plainElem_bool Tryd.underlying4 false) (strKey s hs)
  rw [hrun, plainElem_bool_inv Tryd.underlying4 hv (h2 s hs)]
theorem SetM.put {w : World} {b n : Nat} {S : ByteArray → Bool} (h : SetM w b n S) (s : ByteArray) (hs : s.size ≤ maxLen) (hn : n < maxLen) :
    ∃ w', (Instr.mapUpdate 62 (.map (some b)) (.string s) (.bool true)).run Tryd.prog w = .ok () w' ∧ SetM w' b (n + 1) (fun t => decide (t = s) || S t) ∧ w.grownBy w' (some b) := by
  obtain ⟨D, h1, h2⟩ := h
  obtain ⟨w', hrun, ho, hg⟩ := h1.update (t := 62) (e := 4) strKeyed Tryd.underlying62 hn (strKey s hs) (plainElem_bool Tryd.underlying4 true)
  refine ⟨w', hrun, ⟨_, ho, fun t ht => ?_⟩, hg⟩
  by_cases e : t = s
  · subst e
    rw [atKey_put_same h1.isMap (strKeyed.key (strKey t hs))]
    simp
  · have hne : (Lit.string t.data.toList) ≠ .string s.data.toList := fun e' => e (ByteArray.ext (Array.toList_inj.1 (Lit.string.inj e')))
    rw [atKey_put_other hne, h2 t ht]
    simp [e]
theorem SetM.kept {w w' : World} {b n : Nat} {S : ByteArray → Bool} {row : Option Nat} (h : SetM w b n S) (hg : w.grownBy w' row) (hne : some b ≠ row) : SetM w' b n S := by
  obtain ⟨D, h1, h2⟩ := h
  exact ⟨D, h1.kept hg hne, h2⟩
theorem SetM.alloc {w : World} {b n : Nat} {S : ByteArray → Bool} (h : SetM w b n S) (o : Obj) : SetM (w.alloc o) b n S := by
  obtain ⟨D, h1, h2⟩ := h
  exact ⟨D, h1.alloc o, h2⟩
theorem SetM.lt {w : World} {b n : Nat} {S : ByteArray → Bool} (h : SetM w b n S) : b < w.heap.size := by
  obtain ⟨D, h1, _⟩ := h
  exact h1.lt
theorem SetM.mono {w : World} {b n m : Nat} {S : ByteArray → Bool} (h : SetM w b n S) (hm : n ≤ m) : SetM w b m S := by
  obtain ⟨D, h1, h2⟩ := h
  exact ⟨D, h1.mono hm, h2⟩
theorem SetM.congr {w : World} {b n : Nat} {S T : ByteArray → Bool} (h : SetM w b n S) (he : ∀ s, S s = T s) : SetM w b n T := by
  obtain ⟨D, h1, h2⟩ := h
  exact ⟨D, h1, fun s hs => by rw [← he]; exact h2 s hs⟩
theorem SetM.no_cell {w : World} {b n : Nat} {S : ByteArray → Bool} (h : SetM w b n S) (o : Nat) : w.cell? ⟨b, o, none⟩ = none := by
  obtain ⟨D, ⟨es, clock, hb, _⟩, _⟩ := h
  simp [World.cell?, hb]
set_option maxRecDepth 100000 in
theorem SetM.made (w : World) : SetM (w.alloc (.map #[] 0)) w.heap.size 0 (fun _ => false) :=
  ⟨_, World.ownsMap_made w _ _ _, fun s _ => rfl⟩
end Go.Proofs.YtlikmdmdmljiaaaDoor
