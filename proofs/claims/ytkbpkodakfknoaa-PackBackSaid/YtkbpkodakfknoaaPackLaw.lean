/- Plain: what a pack of objects, with bytes behind it, gives back. -/
import Derived.Test.YtkbpkodakfknoaaPackMore
import Derived.Test.YtkbpkodakfknoaaPackTake
namespace Go.Proofs.Ytkbpkodakfknoaa
open Go.RowKit
set_option linter.unusedVariables false
set_option linter.unusedSimpArgs false
def kOf (s : ByteArray) : ByteArray := shaSum s.data.toList
def obOf (s : ByteArray) : Ob := (kOf s, s)
theorem kOf_size (s : ByteArray) : (kOf s).size = 32 := shaSum_size _
theorem obOf_good (s : ByteArray) : goodT (oText (obOf s)) = true := goodT_sum s
theorem obOf_key (s : ByteArray) : (oText (obOf s)).extract 0 32 = kOf s := by
  have := append_take (kOf s) s
  rw [kOf_size] at this
  exact this
theorem obOf_raw (s : ByteArray) : (oText (obOf s)).extract 32 (oText (obOf s)).size = s := by
  have := append_drop (kOf s) s
  rw [kOf_size] at this
  exact this
theorem foundS_mem {l : List Slt} {x : Slt} (hr : RisS l) (h : x ∈ l) : hasAt l x.1 = true ∧ foundS l x.1 = x := by
  obtain ⟨i, hi, rfl⟩ := List.getElem_of_mem h
  have hk := key_at (k := l[i].1) hr i hi
  have h1 : (l[i].1.toList == l[i].1.toList) = true := by simp
  rw [h1] at hk
  have h2 := hk.symm
  rw [Bool.and_eq_true, decide_eq_true_iff] at h2
  refine ⟨h2.2, ?_⟩
  have h3 : place l l[i].1 < l.length := by rw [← h2.1]; exact hi
  rw [foundS_yes h3 h2.2]
  congr 1
  exact h2.1.symm
theorem runG_obj (n k : Nat) (s : List UInt8) (st : List Slt × Nat) (o : Ob) (rest : List UInt8) (h : o.1.size + o.2.size ≤ 20000) (hg : goodT (oText o) = true) (hs : s.drop k = (oBytes o).data.toList ++ rest) :
    runG (n + 1) k s st = runG n (k + (oBytes o).size) s (stepS st (k, (oBytes o).size, oText o)) := by
  unfold runG
  rw [fFrames_wrap n k s o rest h hs]
  unfold goods
  rw [List.takeWhile_cons, if_pos hg]
  rfl
theorem oBytes_len (o : Ob) : (oBytes o).data.toList.length = (oBytes o).size := by rw [Array.length_toList]; rfl
/-- where an object lies -/
def LiesAt (s : List UInt8) (lo hi : Nat) (os : List Ob) (y : Slt) : Prop :=
  ∃ o ∈ os, ∃ a : Nat, y = ((oText o).extract 0 32, (a : Int), ((oBytes o).size : Int)) ∧ lo ≤ a ∧ a + (oBytes o).size ≤ hi ∧ ∃ r, s.drop a = (oBytes o).data.toList ++ r
theorem run_objs : ∀ (os : List Ob) (n k : Nat) (s : List UInt8) (st : List Slt × Nat) (rest : List UInt8), (∀ o ∈ os, o.1.size + o.2.size ≤ 20000 ∧ goodT (oText o) = true) → s.drop k = pWrap os ++ rest → st.2 = k →
    ∃ st' : List Slt × Nat, runG (n + os.length) k s st = runG n (k + (pWrap os).length) s st' ∧ st'.2 = k + (pWrap os).length ∧ st'.1.length ≤ st.1.length + os.length ∧ (∀ y ∈ st.1, y ∈ st'.1) ∧ (∀ y ∈ st'.1, y ∈ st.1 ∨ LiesAt s k (k + (pWrap os).length) os y) ∧ (∀ o ∈ os, ∃ y ∈ st'.1, y.1 = (oText o).extract 0 32)
  | [], n, k, s, st, rest, _, _, he => ⟨st, by simp [pWrap], by simp [pWrap, he], by simp, (fun y h => h), (fun y h => Or.inl h), (fun o ho => nomatch ho)⟩
  | o :: os, n, k, s, st, rest, hg, hs, he => by
    obtain ⟨h1, h2⟩ := hg o (by simp)
    have hp : pWrap (o :: os) = (oBytes o).data.toList ++ pWrap os := rfl
    have hpl : (pWrap (o :: os)).length = (oBytes o).size + (pWrap os).length := by rw [hp, List.length_append, oBytes_len]
    have hs1 : s.drop k = (oBytes o).data.toList ++ (pWrap os ++ rest) := by rw [hs, hp, List.append_assoc]
    have hs2 : s.drop (k + (oBytes o).size) = pWrap os ++ rest := by
      rw [← List.drop_drop, hs1, ← oBytes_len, List.drop_left]
    obtain ⟨st', e1, e2, e3, e4, e5, e6⟩ := run_objs os n (k + (oBytes o).size) s (stepS st (k, (oBytes o).size, oText o)) rest (fun o ho => hg o (by simp [ho])) hs2 rfl
    have ha := addS_has (l := st.1) ((oText o).extract 0 32, (k : Int), ((oBytes o).size : Int))
    refine ⟨st', ?_, by rw [e2, hpl]; omega, ?_, fun y hy => e4 y (ha.2 y hy), fun y hy => ?_, fun o' ho' => ?_⟩
    · rw [show n + (o :: os).length = (n + os.length) + 1 by simp; omega, runG_obj _ _ _ _ o _ h1 h2 hs1, e1, hpl, Nat.add_assoc]
    · have := addS_len st.1 ((oText o).extract 0 32, (k : Int), ((oBytes o).size : Int))
      have h3 : (stepS st (k, (oBytes o).size, oText o)).1 = addS st.1 ((oText o).extract 0 32, (k : Int), ((oBytes o).size : Int)) := rfl
      rw [h3] at e3
      simp; omega
    · rcases e5 y hy with h | ⟨o', ho', a, ey, l1, l2, r, l3⟩
      · rcases addS_mem _ _ h with h | h
        · exact Or.inl h
        · exact Or.inr ⟨o, by simp, k, h, Nat.le_refl _, by rw [hpl]; omega, _, hs1⟩
      · exact Or.inr ⟨o', by simp [ho'], a, ey, by omega, by rw [hpl]; omega, r, l3⟩
    · rcases List.mem_cons.1 ho' with h | h
      · subst h
        obtain ⟨y, hy, ey⟩ := ha.1
        exact ⟨y, e4 y hy, ey⟩
      · exact e6 o' h
theorem run_rest : ∀ (n k : Nat) (s : List UInt8) (st : List Slt × Nat), s.length ≤ 65536 → k ≤ s.length → st.2 = k →
    (∀ y ∈ st.1, y ∈ (runG n k s st).1) ∧ 37 * (runG n k s st).1.length + k ≤ 37 * st.1.length + s.length ∧ k ≤ (runG n k s st).2 ∧ (runG n k s st).2 ≤ s.length
  | 0, k, s, st, _, hk, he => by rw [runG_zero]; exact ⟨fun y h => h, by omega, by omega, by omega⟩
  | n + 1, k, s, st, hs, hk, he => by
    rcases runG_succ n k s st hs hk with h | ⟨f, hf, h37, hle, h, _⟩
    · rw [h]; exact ⟨fun y h => h, by omega, by omega, by omega⟩
    · rw [h]
      obtain ⟨a, b, c, d⟩ := run_rest n (k + f.2.1) s (stepS st f) hs hle (by show f.1 + f.2.1 = _; omega)
      have ha := addS_has (l := st.1) (f.2.2.extract 0 32, (f.1 : Int), (f.2.1 : Int))
      have hl := addS_len st.1 (f.2.2.extract 0 32, (f.1 : Int), (f.2.1 : Int))
      have h3 : (stepS st f).1 = addS st.1 (f.2.2.extract 0 32, (f.1 : Int), (f.2.1 : Int)) := rfl
      rw [h3] at a b
      exact ⟨fun y hy => a y (ha.2 y hy), by omega, by omega, d⟩
theorem takeV_back (s raw : ByteArray) (a : Nat) (r : List UInt8) (hs : raw.size ≤ 300) (hle : a + (oBytes (obOf raw)).size ≤ s.size) (hd : s.data.toList.drop a = (oBytes (obOf raw)).data.toList ++ r) :
    takeV s (kOf raw) a ((oBytes (obOf raw)).size : Nat) = (raw, 0) := by
  have hx : (s.extract a (a + (oBytes (obOf raw)).size)).data.toList = (oBytes (obOf raw)).data.toList := by
    rw [Lib.extract_data]
    have e : (s.data.toList.drop a).take (oBytes (obOf raw)).size = (oBytes (obOf raw)).data.toList := by rw [hd, ← oBytes_len, List.take_left]
    first
      | (rw [Nat.add_sub_cancel_left]; exact e)
      | (rw [← e, List.drop_take, Nat.add_sub_cancel_left])
  have hl : (oText (obOf raw)).data.toList.length ≤ 65536 := by
    rw [Array.length_toList]; show (oText (obOf raw)).size ≤ _; rw [oText_size]; show (kOf raw).size + raw.size ≤ _; rw [kOf_size]; omega
  have ho := fOpen_wrap (oText (obOf raw)).data.toList [] hl
  rw [List.append_nil] at ho
  have hb : (oBytes (obOf raw)).data.toList = fWrap (oText (obOf raw)).data.toList := rfl
  have hT : (⟨(oText (obOf raw)).data.toList.toArray⟩ : ByteArray) = oText (obOf raw) := by simp
  have hin : inR s.size (a : Nat) ((oBytes (obOf raw)).size : Nat) = true := by unfold inR; rw [decide_eq_true_iff]; omega
  have hr : fOpen ((s.extract a (a + (oBytes (obOf raw)).size)).data.toList) = ((oText (obOf raw)).data.toList, (fWrap (oText (obOf raw)).data.toList).length, 0) := by rw [hx, hb]; exact ho
  rw [takeV_in s (kOf raw) a _ hin _ _ _ hr, hT]
  have h32 : 32 ≤ (oText (obOf raw)).size := by rw [oText_size]; show 32 ≤ (kOf raw).size + raw.size; rw [kOf_size]; omega
  have hn : (fWrap (oText (obOf raw)).data.toList).length = (oBytes (obOf raw)).size := by rw [← hb, oBytes_len]
  rw [hn, if_neg (by simp; omega), if_pos ⟨obOf_good raw, obOf_key raw⟩, obOf_raw]
theorem back_plain (l : List ByteArray) (hs : ∀ s ∈ l, s.size ≤ 300) (hl : l.length ≤ 30) (hc : ∀ s ∈ l, ∀ t ∈ l, kOf s = kOf t → s = t) (t : ByteArray) (ht : t.size ≤ 1000) (PW : ByteArray) (hPW : PW = ⟨(pWrap (l.map obOf)).toArray⟩) (sl : List Slt) (n : Nat) (hsc : scanP (PW ++ t).data.toList = (sl, n)) :
    PW.size ≤ n ∧ n ≤ PW.size + t.size ∧ sl.length ≤ l.length + 30 ∧ PW.size ≤ 30000 ∧ ∀ s ∈ l, ∃ a z : Nat, a + z ≤ PW.size ∧ hasAt sl (kOf s) = true ∧ foundS sl (kOf s) = (kOf s, (a : Int), (z : Int)) ∧ takeV (PW ++ t) (kOf s) a z = (s, 0) := by
  have hri : RisS sl := by have := foldS_ris (goods (allF (PW ++ t).data.toList)); rw [show foldS (goods (allF (PW ++ t).data.toList)) = scanP (PW ++ t).data.toList from rfl, hsc] at this; exact this
  have hP : PW.size = (pWrap (l.map obOf)).length := by rw [hPW]; exact List.size_toArray
  have hg : ∀ o ∈ l.map obOf, o.1.size + o.2.size ≤ 20000 ∧ goodT (oText o) = true := by
    intro o ho
    obtain ⟨s, h, rfl⟩ := List.mem_map.1 ho
    refine ⟨?_, obOf_good s⟩
    show (kOf s).size + s.size ≤ _
    have := hs s h
    rw [kOf_size]; omega
  have key : ∀ os : List Ob, (∀ o ∈ os, o.1.size + o.2.size ≤ 400) → 5 * os.length ≤ (pWrap os).length ∧ (pWrap os).length ≤ os.length * 500 := by
    intro os
    induction os with
    | nil => intro _; simp [pWrap]
    | cons o os ih =>
      intro h
      have h0 := h o (by simp)
      have h5 := (oBytes_size o (by omega)).2
      have hl : (oText o).data.toList.length = o.1.size + o.2.size := by rw [Array.length_toList]; exact oText_size o
      have h1 := fWrap_len (oText o).data.toList (by omega)
      have h2 := vPut_len10 (oText o).data.toList.length (by omega)
      have h3 : (oBytes o).size = (fWrap (oText o).data.toList).length := List.size_toArray
      have h4 := ih (fun o ho => h o (by simp [ho]))
      show 5 * (o :: os).length ≤ ((oBytes o).data.toList ++ pWrap os).length ∧ ((oBytes o).data.toList ++ pWrap os).length ≤ _
      rw [List.length_append, List.length_cons, oBytes_len]
      omega
  obtain ⟨k1, k2⟩ := key (l.map obOf) (by
    intro o ho
    obtain ⟨s, h, rfl⟩ := List.mem_map.1 ho
    show (kOf s).size + s.size ≤ _
    have := hs s h
    rw [kOf_size]; omega)
  rw [List.length_map] at k1 k2
  have hdl : (PW ++ t).data.toList = pWrap (l.map obOf) ++ t.data.toList := by rw [hPW]; simp
  have htl : t.data.toList.length = t.size := by rw [Array.length_toList]; rfl
  have hlen : (PW ++ t).data.toList.length = PW.size + t.size := by rw [hdl, List.length_append, ← hP, htl]
  obtain ⟨m, hm⟩ : ∃ m, (PW ++ t).data.toList.length = m + (l.map obOf).length := ⟨(PW ++ t).data.toList.length - l.length, by rw [List.length_map]; omega⟩
  obtain ⟨st', e1, e2, e3, e4, e5, e6⟩ := run_objs (l.map obOf) m 0 (PW ++ t).data.toList ([], 0) t.data.toList hg (by rw [List.drop_zero, hdl]) rfl
  rw [Nat.zero_add] at e1 e2 e5
  rw [scanP_run, hm, e1] at hsc
  obtain ⟨r1, r2, r3, r4⟩ := run_rest m (pWrap (l.map obOf)).length (PW ++ t).data.toList st' (by omega) (by omega) e2
  rw [hsc] at r1 r2 r3 r4
  dsimp only at r1 r2 r3 r4
  rw [List.length_map] at e3
  simp only [List.length_nil, Nat.zero_add] at e3
  refine ⟨by omega, by omega, by omega, by omega, fun s hmem => ?_⟩
  obtain ⟨y, hy, ey⟩ := e6 (obOf s) (List.mem_map.2 ⟨s, hmem, rfl⟩)
  rw [obOf_key] at ey
  rcases e5 y hy with h | ⟨o, ho, a, ey2, l1, l2, r, l3⟩
  · cases h
  · obtain ⟨s', hs', rfl⟩ := List.mem_map.1 ho
    rw [obOf_key] at ey2
    have hks : kOf s' = kOf s := by rw [← ey, ey2]
    have hss := hc s' hs' s hmem hks
    subst hss
    obtain ⟨f1, f2⟩ := foundS_mem hri (r1 y hy)
    rw [ey2] at f1 f2
    refine ⟨a, _, by rw [hP]; exact l2, f1, f2, ?_⟩
    exact takeV_back (PW ++ t) s' a r (hs s' hmem) (by rw [ByteArray.size_append, hP]; omega) l3
end Go.Proofs.Ytkbpkodakfknoaa
