/- The laws of what is kept: plain. -/
import Derived.Test.YtlikmdmdmljiaaaDoorRetPl3
namespace Go.Proofs.YtlikmdmdmljiaaaDoor
set_option linter.unusedVariables false
set_option linter.unusedSimpArgs false
/-- how many are kept: last, hours, days, weeks, months, years -/
structure Pol where
  a : Int
  b : Int
  c : Int
  d : Int
  e : Int
  f : Int
def rulesL (fs : Nat → Mk → Int) (p : Pol) : List Rule := [(2, p.b, fs 0), (4, p.c, fs 1), (8, p.d, fs 2), (16, p.e, fs 3), (32, p.f, fs 4)]
def whyW (fs : Nat → Mk → Int) (p : Pol) (K : List Mk) : List Nat := whysR K (lastW p.a K.length) (rulesL fs p)
def keepL (nlt : ByteArray → ByteArray → Bool) (fs : Nat → Mk → Int) (p : Pol) (l : List Mk) : List ByteArray := sn nlt (nzN (kn nlt l) (whyW fs p (kn nlt l)))
def dropL (nlt : ByteArray → ByteArray → Bool) (fs : Nat → Mk → Int) (p : Pol) (l : List Mk) : List ByteArray := sn nlt (zN (kn nlt l) (whyW fs p (kn nlt l)))
section
variable {nlt : ByteArray → ByteArray → Bool} {fs : Nat → Mk → Int}
theorem whyW_len (p : Pol) (K : List Mk) : (whyW fs p K).length = K.length := whysR_len K _ _ (lastW_len _ _)
theorem kn_unl {l : List Mk} (hU : Unl l) : Unl (kn nlt l) := unl_perm (unl_filter hU _) (kn_perm l)
/-- each that plays a part is kept or dropped, not both -/
theorem ret_one {l : List Mk} (hU : Unl l) (p : Pol) {x : Mk} (hx : x ∈ l) (ho : okAt x = true) : (x.1 ∈ keepL nlt fs p l ↔ ¬ x.1 ∈ dropL nlt fs p l) := by
  unfold keepL dropL
  rw [sn_mem, sn_mem]
  have hk : x ∈ kn nlt l := (kn_perm l).mem_iff.2 (List.mem_filter.2 ⟨hx, ho⟩)
  obtain ⟨i, hi⟩ := List.mem_iff_getElem?.1 hk
  have hl : i < (whyW fs p (kn nlt l)).length := by rw [whyW_len]; exact (List.getElem?_eq_some_iff.1 hi).1
  obtain ⟨h1, h2⟩ := in_one (kn_unl hU) hi (List.getElem?_eq_getElem hl)
  rw [h1, h2]
theorem ret_len (p : Pol) (l : List Mk) : (keepL nlt fs p l).length + (dropL nlt fs p l).length = (l.filter okAt).length := by
  unfold keepL dropL
  rw [sn_len, sn_len, nz_z_len _ _ (whyW_len p _)]
  exact (kn_perm l).length_eq
theorem ret_rev (h : NOrd nlt) (p : Pol) {l m : List Mk} (hp : m.Perm l) : keepL nlt fs p m = keepL nlt fs p l := by
  unfold keepL
  rw [kn_same h hp]
theorem ret_best (h : NOrd nlt) (hf : ∀ i x, okAt x = true → fs i x ≠ -1) (p : Pol) (l : List Mk) (hn : l.filter okAt ≠ []) (hs : 1 ≤ p.a ∨ 1 ≤ p.b ∨ 1 ≤ p.c ∨ 1 ≤ p.d ∨ 1 ≤ p.e ∨ 1 ≤ p.f) : (bestL nlt (l.filter okAt)).1 ∈ keepL nlt fs p l := by
  unfold keepL
  rw [sn_mem, nz_mem]
  cases hK : kn nlt l with
  | nil =>
    have := (kn_perm (nlt := nlt) l).length_eq
    rw [hK] at this
    exact absurd (List.length_eq_zero_iff.1 this.symm) hn
  | cons x r =>
    have hb := best_first h (l.filter okAt) (kn nlt l) (kn_perm l) x r hK (kn_head h l hK) (fun y hy => by
      have := (List.mem_filter.1 hy).2
      simp [okAt] at this
      exact this.1)
    rw [hb]
    have hx : okAt x = true := (List.mem_filter.1 ((kn_perm (nlt := nlt) l).mem_iff.1 (by rw [hK]; exact List.mem_cons_self))).2
    have key : ∃ v, (whyW fs p (x :: r))[0]? = some v ∧ v ≠ 0 := by
      unfold whyW
      by_cases ha : 1 ≤ p.a
      · refine whysR_keep (x :: r) _ _ 0 1 (lastW_len _ _) ?_ (by decide)
        unfold lastW
        rw [List.getElem?_map, List.getElem?_range (by simp)]
        simp
        omega
      · refine whysR_first x r _ _ (lastW_len _ _) ?_
        rcases hs with hs | hs | hs | hs | hs | hs
        · exact absurd hs ha
        · exact ⟨(2, p.b, fs 0), by simp [rulesL], hs, (by decide : (2 : Nat) ≠ 0), hf 0 x hx⟩
        · exact ⟨(4, p.c, fs 1), by simp [rulesL], hs, (by decide : (4 : Nat) ≠ 0), hf 1 x hx⟩
        · exact ⟨(8, p.d, fs 2), by simp [rulesL], hs, (by decide : (8 : Nat) ≠ 0), hf 2 x hx⟩
        · exact ⟨(16, p.e, fs 3), by simp [rulesL], hs, (by decide : (16 : Nat) ≠ 0), hf 3 x hx⟩
        · exact ⟨(32, p.f, fs 4), by simp [rulesL], hs, (by decide : (32 : Nat) ≠ 0), hf 4 x hx⟩
    obtain ⟨v, h1, h2⟩ := key
    exact ⟨0, x, v, rfl, h1, h2, rfl⟩
theorem ret_none (p : Pol) (l : List Mk) (ha : p.a < 1) (hb : p.b < 1) (hc : p.c < 1) (hd : p.d < 1) (he : p.e < 1) (hf : p.f < 1) : keepL nlt fs p l = [] := by
  unfold keepL whyW
  rw [whysR_none _ _ _ (lastW_len _ _) (fun q hq => by
    simp only [rulesL, List.mem_cons, List.not_mem_nil, or_false] at hq
    rcases hq with rfl | rfl | rfl | rfl | rfl <;> assumption), nz_none _ _ (lastW_none _ _ ha)]
  simp [sn]
theorem ret_mono (p q : Pol) (l : List Mk) (ha : p.a ≤ q.a) (hb : p.b ≤ q.b) (hc : p.c ≤ q.c) (hd : p.d ≤ q.d) (he : p.e ≤ q.e) (hf : p.f ≤ q.f) (s : ByteArray) (hs : s ∈ keepL nlt fs p l) : s ∈ keepL nlt fs q l := by
  unfold keepL at hs ⊢
  rw [sn_mem] at hs ⊢
  refine nz_mono ?_ (whyW_len p _) s hs
  unfold whyW rulesL
  exact whysR_mono _ (.cons 2 _ _ _ (by decide) hb (.cons 4 _ _ _ (by decide) hc (.cons 8 _ _ _ (by decide) hd (.cons 16 _ _ _ (by decide) he (.cons 32 _ _ _ (by decide) hf .nil))))) (lastW_mono _ _ _ ha) (lastW_len _ _)
theorem why_lt (p : Pol) (K : List Mk) : ∀ w ∈ whyW fs p K, w < 64 := by
  unfold whyW
  refine whysR_lt K _ _ (lastW_lt _ _) fun q hq => ?_
  simp only [rulesL, List.mem_cons, List.not_mem_nil, or_false] at hq
  rcases hq with rfl | rfl | rfl | rfl | rfl <;> (dsimp only; omega)
end
end Go.Proofs.YtlikmdmdmljiaaaDoor
