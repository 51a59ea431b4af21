/- CrcLinear: walk. -/
import Derived.Test.YtbamekfebfcleaaCrcStates
namespace Go.Proofs.Ytbamekfebfcleaa
open Go.RowKit
set_option linter.unusedVariables false
set_option linter.unusedSimpArgs false
abbrev Tr := UInt8 × UInt8 × UInt8
/-- a slice of arrays of three bytes -/
def TriB (w : World) (v : Value) (l : List Tr) : Prop :=
  ∃ A c, v = .slice A l.length c ∧ l.length ≤ c ∧ c ≤ maxLen ∧ (0 < l.length → ∃ b off, A = some ⟨b, off, none⟩ ∧ b < w.heap.size ∧ ∀ i (hi : i < l.length), w.cell? ⟨b, off + i * 3, none⟩ = some (encU l[i].1) ∧ w.cell? ⟨b, off + i * 3 + 1, none⟩ = some (encU l[i].2.1) ∧ w.cell? ⟨b, off + i * 3 + 2, none⟩ = some (encU l[i].2.2))
def lsF (l : List Tr) : Nat → List UInt8 := vec (l.map (·.1)) (l.map (·.2.1)) (l.map (·.2.2)) (l.map fun x => x.1 ^^^ x.2.1 ^^^ x.2.2)
theorem x8u (a b : UInt8) : bits .xor .u8 (a.toNat : Int) (b.toNat : Int) = ((a ^^^ b).toNat : Int) := by
  rw [u8_xor _ _ (by omega) (by have := a.toNat_lt; omega) (by omega) (by have := b.toNat_lt; omega)]; simp
theorem x8uu (a b c : UInt8) : bits .xor .u8 ((a.toNat ^^^ b.toNat : Nat) : Int) (c.toNat : Int) = ((a.toNat ^^^ b.toNat ^^^ c.toNat : Nat) : Int) := by
  have := x8u (a ^^^ b) c
  rw [UInt8.toNat_xor, UInt8.toNat_xor, UInt8.toNat_xor] at this
  exact this
theorem xcell {w : World} {X : Nat} {a b c : Value} {t : TypeId} (h : w.heap[X]? = some (.cells #[a, b, c] t)) : w.cell? ⟨X, 0, none⟩ = some a ∧ w.cell? ⟨X, 1, none⟩ = some b ∧ w.cell? ⟨X, 2, none⟩ = some c := by
  unfold World.cell?
  simp [h]
theorem Four.begin {W w : World} {v s s' : Nat → Value} {l : Nat → List UInt8} {y y' : Nat → UInt8} (h : Four W w (fun _ => false) (fun _ => false) v s l y) : Four W w (fun _ => false) (fun _ => false) v s' l y' :=
  ⟨h.rows, h.apart, fun j _ e => by (cases e), h.below⟩
theorem lsF_nil (j : Nat) (hj : j < 4) : lsF [] j = [] := by
  match j, hj with
  | 0, _ => rfl
  | 1, _ => rfl
  | 2, _ => rfl
  | 3, _ => rfl
theorem vec_same {α : Type} (x : α) (j : Nat) (hj : j < 4) : vec x x x x j = x := by
  match j, hj with
  | 0, _ => rfl
  | 1, _ => rfl
  | 2, _ => rfl
  | 3, _ => rfl
theorem Four.start (W : World) : Hid (Four W W (fun _ => false) (fun _ => false) (vec (.slice none 0 0) (.slice none 0 0) (.slice none 0 0) (.slice none 0 0)) (fun _ => undef) (lsF (List.take 0 [])) (fun _ => 0)) := by
  refine ⟨fun j hj => ?_, fun j k hj hk _ => ?_, fun j _ e => by (cases e), Below.refl _ _⟩
  · have e : rowF (lsF (List.take 0 [])) (fun _ => 0) (fun _ => false) j = [] := by unfold rowF; rw [if_neg (by simp)]; exact lsF_nil j hj
    rw [e, vec_same _ j hj]
    exact World.ownsRow_nil _ _ _ _
  · rw [vec_same _ j hj]; exact .inl rfl
theorem conv_own {w : World} {B : Nat} {v : Value} {l : List UInt8} (h : w.ownsRow B 5 1 v l.length (l.map encU)) : ∀ n, (convert 28 9 v).run Try.prog (w.drewN n) = .ok (.string ⟨l.toArray⟩) (w.drewN n) := by
  intro n
  rcases h.2 with ⟨h1, h2⟩ | ⟨g, cap, cur, hv, hb, hg, hn, hm, hc, ht⟩
  · have : l = [] := List.length_eq_zero_iff.1 h2
    subst this
    subst h1
    exact run_convert_bytes_nil (P := Try.prog) _ 28 5 Try.underlying28 Try.underlying5 0 0 9 Try.underlying9
  · subst hv
    refine run_bytes_str _ 28 9 5 Try.underlying28 Try.underlying5 Try.underlying9 g 0 l.length cap l rfl ?_
    intro i hi
    have := h.cells (g := g) rfl i (encU l[i]) (by simp [hi])
    rw [Addr.add_mid, Nat.zero_add] at this
    rw [Nat.zero_add]
    exact this
theorem Four.below' {W w w' : World} {v s : Nat → Value} {l : Nat → List UInt8} {y : Nat → UInt8} (h : Four W w (fun _ => false) (fun _ => false) v s l y) (hb : Below w.heap.size w w') : Four W w' (fun _ => false) (fun _ => false) v s l y := by
  refine ⟨fun j hj => (h.rows j hj).kept (show w.grownBy w' none from ⟨hb.os, hb.tape, hb.output, hb.size, fun i hi _ => hb.block i hi⟩) ?_, h.apart, fun j _ e => by (cases e), h.below.trans (hb.mono h.below.size)⟩
  by_cases e : (v j).ownBlock = none
  · exact .inl e
  · exact .inr e
set_option maxRecDepth 20000 in
set_option maxHeartbeats 2000000 in
theorem crcLinear_any (W : World) (v : Value) (l : List Tr) (hl : TriB W v l) :
    Calls Try.prog 5 #[v] W fun e w' => e = .returned (.bool true) ∧ Below W.heap.size W w' := by
  obtain ⟨A, c, rfl, h1, h2, h3⟩ := hl
  have hc9 : c ≤ 9223372036854775807 := by unfold maxLen at h2; omega
  by_cases hn : l.length ≤ 500
  · have hd : decide ((500 : Int) < (l.length : Int)) = false := by simp; omega
    have H3 := Lib.hid h3
    clear h3
    go_enter Try.func5, Try.ntmps5
    go_wp2_with fail
    go_loopw [3, 4, 5, 6, 15] (fun v3 v4 v5 v6 q wr => ∃ i : Nat, i ≤ l.length ∧ q = .int .i64 i ∧ Hid (Four W wr (fun _ => false) (fun _ => false) (vec v3 v4 v5 v6) (fun _ => undef) (lsF (l.take i)) (fun _ => 0))) (fun _ _ _ _ q _ => l.length - (intOf q).toNat)
    case atStart => exact ⟨0, Nat.zero_le _, rfl, Four.start W⟩
    case round =>
      obtain ⟨i, hi, rfl, HF⟩ := hrel
      by_cases hlt : i < l.length
      · have hlt' : (i : Int) < (l.length : Int) := by omega
        have hic : i < c := by omega
        obtain ⟨b, off, rfl, hb, hcell⟩ := H3.out (by omega)
        obtain ⟨e0, e1, e2⟩ := hcell i hlt
        have f0 := (HF.out.below.cell (p := ⟨b, off + i * 3, none⟩) hb).trans e0
        have f1 := (HF.out.below.cell (p := ⟨b, off + i * 3 + 1, none⟩) hb).trans e1
        have f2 := (HF.out.below.cell (p := ⟨b, off + i * 3 + 2, none⟩) hb).trans e2
        have HTK : Hid (l.take (i + 1) = l.take i ++ [l[i]]) := List.take_succ_eq_append_getElem hlt
        generalize l[i] = x at *
        clear hcell e0 e1 e2
        simp only [encU] at f0 f1 f2
        go_wp2_with fail
        obtain ⟨X, hX⟩ : ∃ X, X = wr.heap.size := ⟨_, rfl⟩
        have hb7 : Below wr.heap.size wr (wr.alloc (.cells #[.int .u8 x.1.toNat, .int .u8 x.2.1.toNat, .int .u8 x.2.2.toNat] 31)).drew := ((Below.refl _ _).alloc (Nat.le_refl _) _).drew
        have HF7 := Lib.hid (HF.out.below' hb7)
        have hXb : (wr.alloc (.cells #[.int .u8 x.1.toNat, .int .u8 x.2.1.toNat, .int .u8 x.2.2.toNat] 31)).drew.heap[X]? = some (.cells #[.int .u8 x.1.toNat, .int .u8 x.2.1.toNat, .int .u8 x.2.2.toNat] 31) := by
          rw [hX]; exact heap_alloc_new _ _
        have hXne : ∀ k, k < 4 → (vec u3 u4 u5 u6 k).ownBlock ≠ some X := fun k hk e => by
          have := ((HF.out.rows k hk).lt X e).2; omega
        refine wp_region_noPanic ?_
        refine wp_region_held_drew (S := fun w => w.heap[X]? = some (.cells #[.int .u8 x.1.toNat, .int .u8 x.2.1.toNat, .int .u8 x.2.2.toNat] 31)) (by kernel_rfl) hXb (fun hHeld => ?_)
        have hXlt : X < (wr.alloc (.cells #[.int .u8 x.1.toNat, .int .u8 x.2.1.toNat, .int .u8 x.2.2.toNat] 31)).drew.heap.size := (Array.getElem?_eq_some_iff.1 hXb).1
        obtain ⟨w7, hw7⟩ : ∃ w7, w7 = (wr.alloc (.cells #[.int .u8 x.1.toNat, .int .u8 x.2.1.toNat, .int .u8 x.2.2.toNat] 31)).drew := ⟨_, rfl⟩
        rw [← hw7] at HF7 hXb hHeld hXlt ⊢
        rw [← hX]
        have HXe := Lib.hid hX
        clear hX hw7 hb7 HF f0 f1 f2
        refine' wpAnyH_take (i := 0) (v := ?v1) rfl (by kernel_rfl) (by kernel_rfl) (by kernel_rfl) (fun _ _ _ h => h) (Or.inl ⟨by kernel_rfl, ?hy1⟩) (by assumption) ?rest1
        case hy1 => (intro w hSw; (try dsimp only at hSw); go_simp; try with_reducible rfl)
        try simp only [Act.put, List.setIfInBounds_toArray, List.set_cons_zero, List.set_cons_succ]
        refine' wpAnyH_take (i := 1) (v := ?v2) rfl (by kernel_rfl) (by kernel_rfl) (by kernel_rfl) (fun _ _ _ h => h) (Or.inl ⟨by kernel_rfl, ?hy2⟩) (by assumption) ?rest2
        case hy2 => (intro w hSw; (try dsimp only at hSw); go_simp; try with_reducible rfl)
        try simp only [Act.put, List.setIfInBounds_toArray, List.set_cons_zero, List.set_cons_succ]
        refine wpAnyH_take (i := 2) (v := .int .u8 x.1.toNat) rfl (by kernel_rfl) (by kernel_rfl) (by kernel_rfl) (fun _ _ _ h => h) (Or.inl ⟨by kernel_rfl, ?_⟩) hHeld ?_
        · intro w hSw
          have hh := (xcell hSw).1
          go_simp
        try simp only [Act.put, List.setIfInBounds_toArray, List.set_cons_zero, List.set_cons_succ]
        refine' wpAnyH_take (i := 5) (v := ?v3) rfl (by kernel_rfl) (by kernel_rfl) (by kernel_rfl) (fun _ _ _ h => h) (Or.inl ⟨by kernel_rfl, ?hy3⟩) (by assumption) ?rest3
        case hy3 => (intro w hSw; (try dsimp only at hSw); go_simp; try with_reducible rfl)
        try simp only [Act.put, List.setIfInBounds_toArray, List.set_cons_zero, List.set_cons_succ]
        refine' wpAnyH_take (i := 6) (v := ?v4) rfl (by kernel_rfl) (by kernel_rfl) (by kernel_rfl) (fun _ _ _ h => h) (Or.inl ⟨by kernel_rfl, ?hy4⟩) (by assumption) ?rest4
        case hy4 => (intro w hSw; (try dsimp only at hSw); go_simp; try with_reducible rfl)
        try simp only [Act.put, List.setIfInBounds_toArray, List.set_cons_zero, List.set_cons_succ]
        refine wpAnyH_take (i := 7) (v := .int .u8 x.2.1.toNat) rfl (by kernel_rfl) (by kernel_rfl) (by kernel_rfl) (fun _ _ _ h => h) (Or.inl ⟨by kernel_rfl, ?_⟩) hHeld ?_
        · intro w hSw
          have hh := (xcell hSw).2.1
          go_simp
        try simp only [Act.put, List.setIfInBounds_toArray, List.set_cons_zero, List.set_cons_succ]
        refine' wpAnyH_take (i := 10) (v := ?v5) rfl (by kernel_rfl) (by kernel_rfl) (by kernel_rfl) (fun _ _ _ h => h) (Or.inl ⟨by kernel_rfl, ?hy5⟩) (by assumption) ?rest5
        case hy5 => (intro w hSw; (try dsimp only at hSw); go_simp; try with_reducible rfl)
        try simp only [Act.put, List.setIfInBounds_toArray, List.set_cons_zero, List.set_cons_succ]
        refine' wpAnyH_take (i := 11) (v := ?v6) rfl (by kernel_rfl) (by kernel_rfl) (by kernel_rfl) (fun _ _ _ h => h) (Or.inl ⟨by kernel_rfl, ?hy6⟩) (by assumption) ?rest6
        case hy6 => (intro w hSw; (try dsimp only at hSw); go_simp; try with_reducible rfl)
        try simp only [Act.put, List.setIfInBounds_toArray, List.set_cons_zero, List.set_cons_succ]
        refine wpAnyH_take (i := 12) (v := .int .u8 x.2.2.toNat) rfl (by kernel_rfl) (by kernel_rfl) (by kernel_rfl) (fun _ _ _ h => h) (Or.inl ⟨by kernel_rfl, ?_⟩) hHeld ?_
        · intro w hSw
          have hh := (xcell hSw).2.2
          go_simp
        try simp only [Act.put, List.setIfInBounds_toArray, List.set_cons_zero, List.set_cons_succ]
        refine' wpAnyH_take (i := 15) (v := ?v7) rfl (by kernel_rfl) (by kernel_rfl) (by kernel_rfl) (fun _ _ _ h => h) (Or.inl ⟨by kernel_rfl, ?hy7⟩) (by assumption) ?rest7
        case hy7 => (intro w hSw; (try dsimp only at hSw); go_simp; try with_reducible rfl)
        try simp only [Act.put, List.setIfInBounds_toArray, List.set_cons_zero, List.set_cons_succ]
        refine' wpAnyH_take (i := 16) (v := ?v8) rfl (by kernel_rfl) (by kernel_rfl) (by kernel_rfl) (fun _ _ _ h => h) (Or.inl ⟨by kernel_rfl, ?hy8⟩) (by assumption) ?rest8
        case hy8 => (intro w hSw; (try dsimp only at hSw); go_simp; try with_reducible rfl)
        try simp only [Act.put, List.setIfInBounds_toArray, List.set_cons_zero, List.set_cons_succ]
        refine wpAnyH_take (i := 17) (v := .int .u8 x.1.toNat) rfl (by kernel_rfl) (by kernel_rfl) (by kernel_rfl) (fun _ _ _ h => h) (Or.inl ⟨by kernel_rfl, ?_⟩) hHeld ?_
        · intro w hSw
          have hh := (xcell hSw).1
          go_simp
        try simp only [Act.put, List.setIfInBounds_toArray, List.set_cons_zero, List.set_cons_succ]
        refine' wpAnyH_take (i := 18) (v := ?v9) rfl (by kernel_rfl) (by kernel_rfl) (by kernel_rfl) (fun _ _ _ h => h) (Or.inl ⟨by kernel_rfl, ?hy9⟩) (by assumption) ?rest9
        case hy9 => (intro w hSw; (try dsimp only at hSw); go_simp; try with_reducible rfl)
        try simp only [Act.put, List.setIfInBounds_toArray, List.set_cons_zero, List.set_cons_succ]
        refine wpAnyH_take (i := 19) (v := .int .u8 x.2.1.toNat) rfl (by kernel_rfl) (by kernel_rfl) (by kernel_rfl) (fun _ _ _ h => h) (Or.inl ⟨by kernel_rfl, ?_⟩) hHeld ?_
        · intro w hSw
          have hh := (xcell hSw).2.1
          go_simp
        try simp only [Act.put, List.setIfInBounds_toArray, List.set_cons_zero, List.set_cons_succ]
        refine wpAnyH_take (i := 20) (v := .int .u8 (x.1 ^^^ x.2.1).toNat) rfl (by kernel_rfl) (by kernel_rfl) (by kernel_rfl) (fun _ _ _ h => h) (Or.inl ⟨by kernel_rfl, ?_⟩) hHeld ?_
        · intro w hSw
          have hh := x8u x.1 x.2.1
          have hg := trivial
          go_simp
        try simp only [Act.put, List.setIfInBounds_toArray, List.set_cons_zero, List.set_cons_succ]
        refine' wpAnyH_take (i := 21) (v := ?v10) rfl (by kernel_rfl) (by kernel_rfl) (by kernel_rfl) (fun _ _ _ h => h) (Or.inl ⟨by kernel_rfl, ?hy10⟩) (by assumption) ?rest10
        case hy10 => (intro w hSw; (try dsimp only at hSw); go_simp; try with_reducible rfl)
        try simp only [Act.put, List.setIfInBounds_toArray, List.set_cons_zero, List.set_cons_succ]
        refine wpAnyH_take (i := 22) (v := .int .u8 x.2.2.toNat) rfl (by kernel_rfl) (by kernel_rfl) (by kernel_rfl) (fun _ _ _ h => h) (Or.inl ⟨by kernel_rfl, ?_⟩) hHeld ?_
        · intro w hSw
          have hh := (xcell hSw).2.2
          go_simp
        try simp only [Act.put, List.setIfInBounds_toArray, List.set_cons_zero, List.set_cons_succ]
        refine wpAnyH_take (i := 23) (v := .int .u8 (x.1 ^^^ x.2.1 ^^^ x.2.2).toNat) rfl (by kernel_rfl) (by kernel_rfl) (by kernel_rfl) (fun _ _ _ h => h) (Or.inl ⟨by kernel_rfl, ?_⟩) hHeld ?_
        · intro w hSw
          have hh := x8uu x.1 x.2.1 x.2.2
          have hg := trivial
          go_simp
        try simp only [Act.put, List.setIfInBounds_toArray, List.set_cons_zero, List.set_cons_succ]
        have HN : Hid (∀ j, j < 4 → rowF (lsF (l.take i)) (vec x.1 x.2.1 x.2.2 (x.1 ^^^ x.2.1 ^^^ x.2.2)) (fun _ => true) j = lsF (l.take (i + 1)) j) := fun j hj => by
          rw [HTK.out]
          match j, hj with
          | 0, _ => simp [rowF, lsF, vec]
          | 1, _ => simp [rowF, lsF, vec]
          | 2, _ => simp [rowF, lsF, vec]
          | 3, _ => simp [rowF, lsF, vec]
        refine lin_go (W := W) (X := X) rfl (by kernel_rfl) (fun w => Iff.rfl) (by simp) (vec u3 u4 u5 u6) (lsF (l.take i)) (vec x.1 x.2.1 x.2.2 (x.1 ^^^ x.2.1 ^^^ x.2.2)) ?_ ?_ ?_ ?_ ?_ (by decide +kernel) hHeld hXlt HF7.out.below.size hXne (fun s => HF7.out.begin) ?_
        · intro j hj
          match j, hj with
          | 0, _ => simp [lsF, vec]; omega
          | 1, _ => simp [lsF, vec]; omega
          | 2, _ => simp [lsF, vec]; omega
          | 3, _ => simp [lsF, vec]; omega
        · intro j hj
          match j, hj with
          | 0, _ => exact ⟨_, rfl, fun _ => rfl, rfl, rfl⟩
          | 1, _ => exact ⟨_, rfl, fun _ => rfl, rfl, rfl⟩
          | 2, _ => exact ⟨_, rfl, fun _ => rfl, rfl, rfl⟩
          | 3, _ => exact ⟨_, rfl, fun _ => rfl, rfl, rfl⟩
        · intro j hj
          match j, hj with
          | 0, _ => exact ⟨_, rfl, fun _ => rfl, rfl, rfl⟩
          | 1, _ => exact ⟨_, rfl, fun _ => rfl, rfl, rfl⟩
          | 2, _ => exact ⟨_, rfl, fun _ => rfl, rfl, rfl⟩
          | 3, _ => exact ⟨_, rfl, fun _ => rfl, rfl, rfl⟩
        · refine ⟨by simp [Act.eval, encU, vec], by simp [Act.eval, encU, vec], by simp [Act.eval, encU, vec], by simp [Act.eval, encU, vec]⟩
        · refine ⟨by simp [Act.eval, vec], by simp [Act.eval, vec], by simp [Act.eval, vec], by simp [Act.eval, vec]⟩
        · intro s p w8 hHeld _ hF8
          have HF8 : Hid (Four W w8 (fun _ => false) (fun _ => false) (vec (p 0) (p 1) (p 2) (p 3)) (fun _ => undef) (lsF (l.take (i + 1))) (fun _ => 0)) := by
            refine ⟨fun j hj => ?_, fun j k hj hk hjk => ?_, fun j _ e => by (cases e), hF8.below⟩
            · have := hF8.rows j hj
              rw [HN.out j hj] at this
              have e : rowF (lsF (l.take (i + 1))) (fun _ => 0) (fun _ => false) j = lsF (l.take (i + 1)) j := by unfold rowF; rw [if_neg (by simp)]
              rw [e]
              match j, hj with
              | 0, _ => exact this
              | 1, _ => exact this
              | 2, _ => exact this
              | 3, _ => exact this
            · have := hF8.apart j k hj hk hjk
              have e : ∀ q, q < 4 → vec (p 0) (p 1) (p 2) (p 3) q = p q := fun q hq => by
                match q, hq with
                | 0, _ => rfl
                | 1, _ => rfl
                | 2, _ => rfl
                | 3, _ => rfl
              rw [e j hj, e k hk]; exact this
          clear HF7 HN HTK hF8 hXne hXlt hXb
          simp only [putAll, lsT, Act.put, List.setIfInBounds_toArray, List.set_cons_zero, List.set_cons_succ]
          refine' wpAnyH_take (i := 26) (v := ?v11) rfl (by kernel_rfl) (by kernel_rfl) (by kernel_rfl) (fun _ _ _ h => h) (Or.inl ⟨by kernel_rfl, ?hy11⟩) (by assumption) ?rest11
          case hy11 => (intro w hSw; (try dsimp only at hSw); go_simp; try with_reducible rfl)
          try simp only [Act.put, List.setIfInBounds_toArray, List.set_cons_zero, List.set_cons_succ]
          refine' wpAnyH_take (i := 27) (v := ?v12) rfl (by kernel_rfl) (by kernel_rfl) (by kernel_rfl) (fun _ _ _ h => h) (Or.inl ⟨by kernel_rfl, ?hy12⟩) (by assumption) ?rest12
          case hy12 => (intro w hSw; (try dsimp only at hSw); go_simp; try with_reducible rfl)
          try simp only [Act.put, List.setIfInBounds_toArray, List.set_cons_zero, List.set_cons_succ]
          refine' wpAnyH_take (i := 28) (v := ?v13) rfl (by kernel_rfl) (by kernel_rfl) (by kernel_rfl) (fun _ _ _ h => h) (Or.inl ⟨by kernel_rfl, ?hy13⟩) (by assumption) ?rest13
          case hy13 => (intro w hSw; (try dsimp only at hSw); go_simp; try with_reducible rfl)
          try simp only [Act.put, List.setIfInBounds_toArray, List.set_cons_zero, List.set_cons_succ]
          refine' wpAnyH_take (i := 29) (v := ?v14) rfl (by kernel_rfl) (by kernel_rfl) (by kernel_rfl) (fun _ _ _ h => h) (Or.inl ⟨by kernel_rfl, ?hy14⟩) (by assumption) ?rest14
          case hy14 => (intro w hSw; (try dsimp only at hSw); go_simp; try with_reducible rfl)
          try simp only [Act.put, List.setIfInBounds_toArray, List.set_cons_zero, List.set_cons_succ]
          refine wpAnyH_done (by kernel_rfl) ?_ _
          refine NoPanic.normal ?_
          go_wp2_with fail
          go_roundw
          case rel => exact ⟨i + 1, by omega, by go_num, HF8⟩
          case measure => simp [intOf]; omega
      · obtain rfl : i = l.length := by omega
        have hF := HF.out
        rw [List.take_length] at hF
        have e : ∀ j, rowF (lsF l) (fun _ => 0) (fun _ => false) j = lsF l j := fun j => by unfold rowF; rw [if_neg (by simp)]
        have r0 := hF.rows 0 (by omega)
        have r1 := hF.rows 1 (by omega)
        have r2 := hF.rows 2 (by omega)
        have r3 := hF.rows 3 (by omega)
        rw [e] at r0 r1 r2 r3
        have k0 := conv_own r0
        have k1 := conv_own r1
        have k2 := conv_own r2
        have k3 := conv_own r3
        have hlin := crc_linear l
        have C0 := Lib.hid (fun w => crcSum_any ⟨(lsF l 0).toArray⟩ w (by simp [ByteArray.size, lsF, vec, maxLen]; omega))
        have C1 := Lib.hid (fun w => crcSum_any ⟨(lsF l 1).toArray⟩ w (by simp [ByteArray.size, lsF, vec, maxLen]; omega))
        have C2 := Lib.hid (fun w => crcSum_any ⟨(lsF l 2).toArray⟩ w (by simp [ByteArray.size, lsF, vec, maxLen]; omega))
        have C3 := Lib.hid (fun w => crcSum_any ⟨(lsF l 3).toArray⟩ w (by simp [ByteArray.size, lsF, vec, maxLen]; omega))
        have HB := Lib.hid hF.below
        change crcMore 0 (lsF l 0) ^^^ crcMore 0 (lsF l 1) ^^^ crcMore 0 (lsF l 2) = crcMore 0 (lsF l 3) at hlin
        change ∀ n, (convert 28 9 u3).run Try.prog (wr.drewN n) = _ at k0
        change ∀ n, (convert 28 9 u4).run Try.prog (wr.drewN n) = _ at k1
        change ∀ n, (convert 28 9 u5).run Try.prog (wr.drewN n) = _ at k2
        change ∀ n, (convert 28 9 u6).run Try.prog (wr.drewN n) = _ at k3
        generalize lsF l 0 = l0 at *
        generalize lsF l 1 = l1 at *
        generalize lsF l 2 = l2 at *
        generalize lsF l 3 = l3 at *
        simp only [List.toList_toArray] at C0 C1 C2 C3
        generalize crcMore 0 l0 = q0 at *
        generalize crcMore 0 l1 = q1 at *
        generalize crcMore 0 l2 = q2 at *
        generalize crcMore 0 l3 = q3 at *
        have hx1 := x32 q0 q1
        have hx2 := x32 (q0 ^^^ q1) q2
        have hq : (((q0 ^^^ q1 ^^^ q2).toNat : Int) == (q3.toNat : Int)) = true := by rw [hlin]; simp
        rw [UInt32.toNat_xor] at hx1
        rw [UInt32.toNat_xor, UInt32.toNat_xor] at hx2
        rw [UInt32.toNat_xor, UInt32.toNat_xor] at hq
        clear hlin r0 r1 r2 r3 hF e HF H3
        go_wp2_with fail
        go_quiet (first | (go_at_call 20; exact quiet_same (C0.out _)) | (go_at_call 20; exact quiet_same (C1.out _)) | (go_at_call 20; exact quiet_same (C2.out _)) | (go_at_call 20; exact quiet_same (C3.out _)) | (go_at_call 18; exact quiet_same (crcAwake_any _)))
        go_wp2_with fail
        go_ret
        exact ⟨rfl, Below.drewN HB.out _⟩
  · have hd : decide ((500 : Int) < (l.length : Int)) = true := by simp; omega
    clear hn
    go_enter Try.func5, Try.ntmps5
    go_wp2_with fail
    refine (crcAwake_any _).mono ?_
    rintro e wA ⟨rfl, rfl⟩
    go_wp2
    go_ret
    exact ⟨rfl, Below.refl _ _⟩
def triple (y : List UInt8) : Tr := (y.getD 0 0, y.getD 1 0, y.getD 2 0)
theorem triple_flat (y : List UInt8) (h : y.length = 3) : List.flatMap EU8 y = [encU (triple y).1, encU (triple y).2.1, encU (triple y).2.2] := by
  match y, h with
  | [a, b, c], _ => rfl
theorem flat3 : ∀ (x0 : List (List UInt8)), (∀ y ∈ x0, y.length = 3) → ∀ i (hi : i < x0.length), (x0.flatMap (fun xs => List.flatMap EU8 xs))[i * 3]? = some (encU (triple x0[i]).1) ∧ (x0.flatMap (fun xs => List.flatMap EU8 xs))[i * 3 + 1]? = some (encU (triple x0[i]).2.1) ∧ (x0.flatMap (fun xs => List.flatMap EU8 xs))[i * 3 + 2]? = some (encU (triple x0[i]).2.2)
  | [], _, i, hi => by simp at hi
  | y :: t, h, 0, _ => by
    rw [List.flatMap_cons, triple_flat y (h y (List.mem_cons_self ..))]
    simp
  | y :: t, h, i + 1, hi => by
    have ih := flat3 t (fun z hz => h z (List.mem_cons_of_mem _ hz)) i (by simpa using hi)
    rw [List.flatMap_cons, triple_flat y (h y (List.mem_cons_self ..))]
    simp only [List.getElem_cons_succ]
    have e : ∀ q, (i + 1) * 3 + q = (i * 3 + q) + 3 := fun q => by omega
    refine ⟨?_, ?_, ?_⟩
    · have := e 0; simp only [Nat.add_zero] at this; rw [this]; exact ih.1
    · rw [e 1]; exact ih.2.1
    · rw [e 2]; exact ih.2.2
theorem flat3_len : ∀ (x0 : List (List UInt8)), (∀ y ∈ x0, y.length = 3) → (x0.flatMap (fun xs => List.flatMap EU8 xs)).length = x0.length * 3
  | [], _ => rfl
  | y :: t, h => by
    rw [List.flatMap_cons, triple_flat y (h y (List.mem_cons_self ..)), List.length_append, flat3_len t (fun z hz => h z (List.mem_cons_of_mem _ hz))]
    simp; omega
theorem crcLinear_ok (W : World) (A0 : Option Addr) (n0 c0 : Nat) (x0 : List (List UInt8)) {P0 : List UInt8 → Prop} (w0 : Sl W A0 n0 c0 3 (x0.flatMap (fun xs => List.flatMap EU8 xs)) ∧ x0.length = n0 ∧ (A0 = none → c0 = 0) ∧ ∀ y ∈ x0, y.length = 3 ∧ P0 y) :
    Calls Try.prog 5 #[.slice A0 n0 c0] W fun e w' => e = .returned (.bool true) ∧ Below W.heap.size W w' := by
  obtain ⟨hs, hn, _, h3⟩ := w0
  refine crcLinear_any W _ (x0.map triple) ⟨A0, c0, by rw [List.length_map, hn], by rw [List.length_map, hn]; exact hs.le, hs.cap, fun hl => ?_⟩
  rw [List.length_map] at hl
  have hq : ∀ y ∈ x0, y.length = 3 := fun y hy => (h3 y hy).1
  obtain ⟨b, off, e1, e2, e3⟩ := hs.cells (by omega)
  refine ⟨b, off, e1, e2, fun i hi => ?_⟩
  rw [List.length_map] at hi
  obtain ⟨f0, f1, f2⟩ := flat3 x0 hq i hi
  simp only [List.getElem_map]
  exact ⟨(e3 (i * 3) (by omega)).trans f0, (e3 (i * 3 + 1) (by omega)).trans f1, (e3 (i * 3 + 2) (by omega)).trans f2⟩
end Go.Proofs.Ytbamekfebfcleaa
