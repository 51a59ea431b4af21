/- Ends as they are meant: a tick, a frame, junk. -/
import Derived.Test.YtjgjhjecgdndjaaLoTakeJ
import Derived.Test.YtjgjhjecgdndjaaLoSend
import Derived.Test.YtjgjhjecgdndjaaLinkLaw
import Derived.Test.YtjgjhjecgdndjaaLinkDead
import Derived.Test.YtjgjhjecgdndjaaLinkAwake
namespace Go.Proofs.Ytjgjhjecgdndjaa
open Go.RowKit
set_option linter.unusedVariables false
set_option linter.unusedSimpArgs false
/-- a frame of whom sent S -/
def FrG (S : List ByteArray) (y : ByteArray) : Prop := y.size ≤ 1000000 ∧ ∀ (q a : Nat) (d : ByteArray), lRead y.data.toList = ((7, q, a, d.data.toList), 0) → d.data.toList = [] ∨ S[q]? = some d
theorem frG_write (S : List ByteArray) (q k : Nat) (s : ByteArray) (hq : q ≤ 1000) (hk : k ≤ 1000) (hs : s.size ≤ 300) (hS : s.data.toList = [] ∨ S[q]? = some s) : FrG S ⟨(lWrite 7 (q : Int) (k : Int) s.data.toList).toArray⟩ := by
  refine ⟨lWrite_size 7 q k s (by omega), ?_⟩
  intro q' a d h
  have hf : lFits (q : Int) (k : Int) s.data.toList.length = true := by
    have h1 : s.data.toList.length = s.size := by rw [Array.length_toList]; rfl
    unfold lFits
    rw [h1]
    rw [decide_eq_true (⟨by omega, by omega⟩ : (0 : Int) ≤ (q : Int) ∧ (q : Int) ≤ 1073741824), decide_eq_true (⟨by omega, by omega⟩ : (0 : Int) ≤ (k : Int) ∧ (k : Int) ≤ 1073741824), decide_eq_true (show s.size ≤ 60000 by omega)]
    rfl
  have hr := lRead_write 7 q k s.data.toList (by decide) hf
  simp only [] at h
  rw [hr] at h
  injection h with h1 h2
  injection h1 with h1 h3
  injection h3 with h3 h4
  injection h4 with h4 h5
  have hd : d = s := ByteArray.ext (Array.toList_inj.1 h5.symm)
  subst hd
  rw [← h3]
  simpa using hS
theorem frG_outs (S : List ByteArray) (k : Nat) (hk : k ≤ 1000) : ∀ (L : List ByteArray) (b : Nat), b + L.length ≤ 1000 → (∀ s ∈ L, s.size ≤ 300) → (∀ i s, L[i]? = some s → S[b + i]? = some s) → ∀ y ∈ outsFrom 7 (k : Int) (b : Int) L, FrG S y
  | [], _, _, _, _ => fun y hy => by simp [outsFrom] at hy
  | x :: r, b, hb, hs, hS => fun y hy => by
    simp only [outsFrom, List.mem_cons] at hy
    rcases hy with rfl | hy
    · exact frG_write S b k x (by omega) hk (hs x List.mem_cons_self) (.inr (hS 0 x rfl))
    · rw [show ((b : Int) + 1) = ((b + 1 : Nat) : Int) by omega] at hy
      refine frG_outs S k hk r (b + 1) (by simp at hb; omega) (fun s h => hs s (List.mem_cons_of_mem _ h)) (fun i s h => ?_) y hy
      have := hS (i + 1) s (by simpa using h)
      rw [show b + 1 + i = b + (i + 1) by omega]; exact this
theorem tick_end {B n : Nat} {v : Nat → Value} {l : Nat → List ByteArray} {S T : List ByteArray} {e : EndV} {W : World} (hl : Led B n v l W) (h : EndOk B n v S T e W) (hS : S.length ≤ 90) (hT : T.length ≤ 90) (hs : ∀ s ∈ S, s.size ≤ 300) :
    Calls Try.prog 13 #[e.v] W fun r W' => ∃ (e' : EndV) (u : Value) (out : List ByteArray), r = .returned (.tuple #[e'.v, u]) ∧ EndOk B n v S T e' W' ∧ StrsN W' u out ∧ out.length ≤ 4 ∧ (∀ y ∈ out, FrG S y) ∧ e'.le = e.le ∧ e'.next = e.next ∧ Below W.heap.size W W' := by
  obtain ⟨base, next, idle, dead, vo, vw, ve, lo, lw, le⟩ := e
  obtain ⟨ho, hw, hf, hao, haw, haf, ⟨b, hb, hbS, hbl⟩, ⟨k, hk, hkT⟩, hol, hg, hi0, hi1, hi2⟩ := h
  dsimp only at ho hw hf hao haw haf hb hbl hk hol hg hi0 hi1 hi2
  subst hb hk
  obtain ⟨Ao, co, rfl, _, _⟩ := ho.1.len
  obtain ⟨Aw, cw, rfl, _, _⟩ := hw.1.len
  obtain ⟨Ae, ce, rfl, _, _⟩ := hf.len
  have hlen := congrArg List.length hbl
  rw [List.length_append, List.length_drop] at hlen
  cases dead with
  | true =>
    refine (tick_dead 7 b k idle Ao Aw Ae _ _ _ _ _ _ W).mono ?_
    rintro r W' ⟨rfl, hb⟩
    exact ⟨⟨b, k, idle, true, _, _, _, lo, lw, le⟩, _, [], rfl, ⟨ho.below hb (Nat.le_refl _), hw.below hb (Nat.le_refl _), hf.below hb (Nat.le_refl _), hao.more hb.size, haw.more hb.size, haf.more hb.size, ⟨b, rfl, hbS, hbl⟩, ⟨k, rfl, hkT⟩, hol, hg, hi0, hi1, hi2⟩, strsN_nilL _, by simp, by simp, rfl, rfl, hb⟩
  | false =>
    have hi3 := hi2 rfl
    have hLt : lo ++ lw.take (min (4 - lo.length) lw.length) ++ lw.drop (min (4 - lo.length) lw.length) = S.drop b := by
      rw [List.append_assoc, List.take_append_drop]; exact hbl
    have hL4 : (lo ++ lw.take (min (4 - lo.length) lw.length)).length ≤ 4 := by
      rw [List.length_append, List.length_take]; omega
    by_cases hidle : idle + 1 < 40
    · have hLs : ∀ s ∈ lo ++ lw.take (min (4 - lo.length) lw.length), s.size ≤ 300 := fun s hm => hs s (List.mem_of_mem_drop (hLt ▸ List.mem_append_left _ hm))
      refine (tick_live 7 b k idle _ _ Ae _ ce lo lw _ _ W ho hw hol (by omega) rfl rfl hi0 hidle (by omega) (by omega) (fun s hm => by have := hLs s hm; omega)).mono ?_
      rintro r W' ⟨vo', vw', u, rfl, ho', ⟨hw', hsw, hso⟩, hu, hb⟩
      refine ⟨⟨b, k, idle + 1, false, vo', vw', _, _, _, le⟩, u, _, rfl, ⟨ho', hw', hf.below hb (Nat.le_refl _), hao.src hl hso hb.size, haw.src hl hsw hb.size, haf.more hb.size, ⟨b, rfl, hbS, hLt⟩, ⟨k, rfl, hkT⟩, hL4, hg, by dsimp only; omega, by dsimp only; omega, fun _ => hidle⟩, hu, ?_, ?_, rfl, rfl, hb⟩
      · unfold lTick
        split
        · simp
        · rw [outs_len]; exact hL4
      · intro y hy
        unfold lTick at hy
        split at hy
        · simp only [List.mem_singleton] at hy
          subst hy
          exact frG_write S b k ⟨#[]⟩ (by omega) (by omega) (by decide) (.inl rfl)
        · refine frG_outs S k (by omega) _ b (by omega) hLs (fun i s hi => ?_) y hy
          rw [← List.getElem?_drop, ← hLt]
          rw [List.getElem?_append_left (List.getElem?_eq_some_iff.1 hi).1]; exact hi
    · have hidle : idle = 39 := by omega
      subst hidle
      refine (tick_last 7 b k _ _ Ae _ ce lo lw _ _ W ho hw hol (by omega) rfl rfl).mono ?_
      rintro r W' ⟨vo', vw', rfl, ho', ⟨hw', hsw, hso⟩, hb⟩
      exact ⟨⟨b, k, 40, true, vo', vw', _, _, _, le⟩, _, [], rfl, ⟨ho', hw', hf.below hb (Nat.le_refl _), hao.src hl hso hb.size, haw.src hl hsw hb.size, haf.more hb.size, ⟨b, rfl, hbS, hLt⟩, ⟨k, rfl, hkT⟩, hL4, hg, by dsimp only; omega, by dsimp only; omega, fun h => by cases h⟩, strsN_nilL _, by simp, by simp, rfl, rfl, hb⟩
theorem take_end {B n : Nat} {v : Nat → Value} {l : Nat → List ByteArray} {S T : List ByteArray} {e : EndV} {W : World} (hl : Led B n v l W) (h : EndOk B n v S T e W) (hS : S.length ≤ 90) (hT : T.length ≤ 90) (hle : e.le.length ≤ 900) (y : ByteArray) (hy : FrG T y) :
    Calls Try.prog 14 #[e.v, .string y] W fun r W' => ∃ (e' : EndV) (u : Value) (k m : Nat), r = .returned (.tuple #[e'.v, u]) ∧ EndOk B n v S T e' W' ∧ e.next = k ∧ e'.next = ((k + m : Nat) : Int) ∧ k + m ≤ T.length ∧ StrsN W' u ((T.drop k).take m) ∧ e'.le.length ≤ e.le.length + 1 ∧ Below W.heap.size W W' := by
  obtain ⟨base, next, idle, dead, vo, vw, ve, lo, lw, le⟩ := e
  obtain ⟨ho, hw, hf, hao, haw, haf, ⟨b, hb, hbS, hbl⟩, ⟨k, hk, hkT⟩, hol, hg, hi0, hi1, hi2⟩ := h
  dsimp only at ho hw hf hao haw haf hb hbl hk hol hg hi0 hi1 hi2 hle
  subst hb hk
  refine (takeG S T 7 b k idle dead vo vw ve lo lw le y W ho hw hf (fun b hb => (haf b hb).2.1) ⟨hbS, hbl⟩ hkT hT hS hol hg hle ⟨hi0, hi1⟩ hy.1 hy.2).mono ?_
  rintro r W' ⟨b', m, vo', ve', u, lo', le', idle', rfl, hbl', hkm, hid, ⟨ho', hol', hso⟩, ⟨hf', hg', hle', hse⟩, hu, hb⟩
  refine ⟨⟨b', ((k + m : Nat) : Int), idle', dead, vo', vw, ve', lo', lw, le'⟩, u, k, m, rfl, ⟨ho', hw.below hb (Nat.le_refl _), hf', hao.src hl hso hb.size, haw.more hb.size, haf.src hl hse hb.size, ⟨b', rfl, hbl'⟩, ⟨k + m, rfl, hkm⟩, hol', hg', ?_⟩, rfl, rfl, hkm, hu, hle', hb⟩
  dsimp only
  rcases hid with h | h
  · subst h; exact ⟨hi0, hi1, hi2⟩
  · subst h; exact ⟨by omega, by omega, fun _ => by omega⟩
theorem junk_end {B n : Nat} {v : Nat → Value} {S T : List ByteArray} {e : EndV} {W : World} (h : EndOk B n v S T e W) (hS : S.length ≤ 90) (hT : T.length ≤ 90) (hle : e.le.length ≤ 900) (y : ByteArray) (hy0 : y.size ≤ 1000000) (hy : ∀ (q a : Nat) (d : ByteArray), lRead y.data.toList ≠ ((7, q, a, d.data.toList), 0)) :
    Calls Try.prog 14 #[e.v, .string y] W fun r W' => r = .returned (.tuple #[e.v, .slice none 0 0]) ∧ Below W.heap.size W W' := by
  obtain ⟨base, next, idle, dead, vo, vw, ve, lo, lw, le⟩ := e
  obtain ⟨ho, hw, hf, hao, haw, haf, ⟨b, hb, hbS, hbl⟩, ⟨k, hk, hkT⟩, hol, hg, hi0, hi1, hi2⟩ := h
  dsimp only at ho hw hf hao haw haf hb hbl hk hol hg hi0 hi1 hi2 hle
  subst hb hk
  exact takeJ 7 b k idle dead vo vw ve lo lw le y W ho hw hf (fun b hb => (haf b hb).2.1) (by omega) (by omega) hol hle ⟨hi0, hi1⟩ hy0 hy
end Go.Proofs.Ytjgjhjecgdndjaa
