/- siloref12.Clash (walk). -/
import Derived.Test.YtkbpkodakfknoaaPackGet
import Derived.Test.YtkbpkodakfknoaaPackLaw
import Derived.Test.YtkbpkodakfknoaaStrs
namespace Go.Proofs.Ytkbpkodakfknoaa
open Go.RowKit
set_option linter.unusedVariables false
set_option linter.unusedSimpArgs false
structure ClI (l : List ByteArray) (j : Nat) (L : List Ob) : Prop where
  all : ∀ t (h : t < l.length), t < j → obOf l[t] ∈ L
  one : ∀ o ∈ L, ∀ p ∈ L, o.1 = p.1 → o = p
  len : L.length ≤ j
theorem ClI.step {l : List ByteArray} {j : Nat} {L U : List Ob} (h : ClI l j L) (hj : j < l.length) (ha : AddO L (obOf l[j]) U) (hc : obOf l[j] ∈ L ∨ ∀ o ∈ L, o.1 ≠ kOf l[j]) : ClI l (j + 1) U := by
  rcases hc with hc | hc
  · have hU := ha.same ⟨_, hc, rfl⟩
    subst hU
    refine ⟨fun t ht h' => ?_, h.one, by have := h.len; omega⟩
    by_cases e : t = j
    · subst e; exact hc
    · exact h.all t ht (by omega)
  · have hin := ha.new hc
    refine ⟨fun t ht h' => ?_, fun o ho p hp e => ?_, by have := h.len; have := ha.len; omega⟩
    · by_cases e : t = j
      · subst e; exact hin
      · exact ha.all _ (h.all t ht (by omega))
    · rcases ha.old o ho with h1 | h1
      · rcases ha.old p hp with h2 | h2
        · exact h.one o h1 p h2 e
        · subst h2; exact absurd e (hc o h1)
      · rcases ha.old p hp with h2 | h2
        · subst h1; exact absurd e.symm (hc p h2)
        · rw [h1, h2]
theorem ClI.done {l : List ByteArray} {L : List Ob} (h : ClI l l.length L) : ∀ s ∈ l, ∀ t ∈ l, kOf s = kOf t → s = t := by
  intro s hs t ht e
  obtain ⟨i, hi, rfl⟩ := List.getElem_of_mem hs
  obtain ⟨k, hk, rfl⟩ := List.getElem_of_mem ht
  have := h.one _ (h.all i hi hi) _ (h.all k hk hk) e
  exact congrArg Prod.snd this
set_option maxRecDepth 20000 in
set_option maxHeartbeats 2000000 in
theorem clash_any (v : Value) (l : List ByteArray) (w : World) (hv : StrsB w v l) (hs : ∀ s ∈ l, s.size ≤ 300) (hl : l.length ≤ 1000) :
    Calls Try.prog 20 #[v] w fun e w' => ∃ b, e = .returned (.bool b) ∧ (b = false → ∀ s ∈ l, ∀ t ∈ l, kOf s = kOf t → s = t) ∧ Below w.heap.size w w' := by
  obtain ⟨A, c, hve, h2, h3⟩ := hv.len
  subst hve
  have hcells : 0 < l.length → ∃ b off, A = some ⟨b, off, none⟩ ∧ b < w.heap.size ∧ ∀ j (hj : j < l.length), w.cell? ⟨b, off + j, none⟩ = some (.string l[j]) := fun h => by
    obtain ⟨b, off, c', e, _, _, e2, e3⟩ := hv.at h
    cases e
    exact ⟨b, off, rfl, e2, e3⟩
  have hc9 : c ≤ 9223372036854775807 := by unfold maxLen at h3; omega
  have HH4 := Lib.hid hcells
  have HS := Lib.hid hs
  obtain ⟨n, hn⟩ : ∃ n, n = l.length := ⟨_, rfl⟩
  have HN := Lib.hid hn
  rw [← hn] at h2 hl ⊢
  clear hcells hs hn h3 hv
  go_enter Try.func20, Try.ntmps20
  go_wp2_with fail
  go_loopw [3, 4] (fun o i wr => ∃ (j : Nat) (L : List Ob), j ≤ n ∧ i = .int .i64 j ∧ Hid (ObjsB wr o L) ∧ Hid (ClI l j L) ∧ Hid (Below w.heap.size w wr)) (fun _ i _ => n - (intOf i).toNat)
  case atStart => exact ⟨0, [], Nat.zero_le _, rfl, ⟨none, 0, rfl, Nat.le_refl _, by unfold maxLen; omega, fun h => absurd h (by simp)⟩, ⟨(fun t h h' => absurd h' (by omega)), (fun o ho => nomatch ho), Nat.le_refl _⟩, Below.refl _ _⟩
  case round =>
    obtain ⟨j, L, hj, rfl, HL, HI, HBr⟩ := hrel
    by_cases hlt : j < n
    · have hlt' : (j : Int) < (n : Int) := by omega
      have hnn := HN.out
      obtain ⟨b, off, rfl, hblt, hcells⟩ := HH4.out (by omega)
      have hml : j < l.length := by omega
      have x1 := hcells j hml
      have y1 := (HBr.out.cell (p := ⟨b, off + j, none⟩) hblt).trans x1
      have hj0 : (0 : Int) ≤ (j : Int) := by omega
      have hsz := HS.out l[j] (List.getElem_mem hml)
      have HST : Hid (∀ U, AddO L (obOf l[j]) U → (obOf l[j] ∈ L ∨ ∀ o ∈ L, o.1 ≠ kOf l[j]) → ClI l (j + 1) U) := fun U ha hc => HI.out.step hml ha hc
      have HLN : Hid (L.length ≤ 1000) := by have := HI.out.len; unfold Hid; omega
      generalize l[j] = s at *
      have HSum := Lib.hid (fun w => refSum_any s w (by omega))
      have hk32 := kOf_size s
      have HK32 := Lib.hid hk32
      rw [show shaSum s.data.toList = kOf s from rfl] at HSum
      have HOB : Hid (obOf s = (kOf s, s)) := rfl
      generalize kOf s = k at *
      have HX1 := Lib.hid x1
      clear x1 hnn HI hk32 hcells
      go_wp2_with fail
      refine (HSum.out _).mono ?_
      rintro e w1 ⟨rfl, b1⟩
      have HB1 := Lib.hid (HBr.out.trans (b1.mono HBr.out.size))
      have HL1 := Lib.hid (HL.out.below b1 (Nat.le_refl _))
      clear b1 HBr HL y1
      go_wp2_with fail
      refine (oget_any _ L k w1 HL1.out).mono ?_
      rintro e w2 ⟨r, b0, rfl, ⟨hyes, hno⟩, b2⟩
      have HB2 := Lib.hid (HB1.out.trans (b2.mono HB1.out.size))
      have HL2 := Lib.hid (HL1.out.below b2 (Nat.le_refl _))
      have y2 := (HB2.out.cell (p := ⟨b, off + j, none⟩) hblt).trans HX1.out
      cases b0 with
      | false =>
        have HNO := Lib.hid (hno rfl)
        clear hyes hno b2 HL1 HB1
        go_wp2_with fail
        refine (oadd_any _ L (k, s) w2 HL2.out HK32.out (by have := HLN.out; omega)).mono ?_
        rintro e w3 ⟨v3, U, rfl, o3, a3, b3⟩
        have HB3 := Lib.hid (HB2.out.trans (b3.mono HB2.out.size))
        have HO3 := Lib.hid o3
        have HC3 := Lib.hid (HST.out U (by rw [HOB.out]; exact a3) (Or.inr HNO.out))
        clear b3 o3 a3
        go_wp2_with fail
        go_roundw
        case rel => exact ⟨j + 1, U, by omega, by go_num, HO3, HC3, HB3⟩
        case measure => simp [intOf]; omega
      | true =>
        have HY := Lib.hid (hyes rfl)
        by_cases he : r = s
        · have hee : (r.toList == s.toList) = true := by rw [he]; simp
          rw [he] at HY
          clear hyes hno b2 HL1 HB1 he
          go_wp2_with fail
          refine (oadd_any _ L (k, s) w2 HL2.out HK32.out (by have := HLN.out; omega)).mono ?_
          rintro e w3 ⟨v3, U, rfl, o3, a3, b3⟩
          have HB3 := Lib.hid (HB2.out.trans (b3.mono HB2.out.size))
          have HO3 := Lib.hid o3
          have HC3 := Lib.hid (HST.out U (by rw [HOB.out]; exact a3) (Or.inl (by rw [HOB.out]; exact HY.out)))
          clear b3 o3 a3
          go_wp2_with fail
          go_roundw
          case rel => exact ⟨j + 1, U, by omega, by go_num, HO3, HC3, HB3⟩
          case measure => simp [intOf]; omega
        · have hee : (r.toList == s.toList) = false := by
            rw [beq_eq_false_iff_ne, toList_data, toList_data]
            exact fun e => he (ByteArray.ext (Array.toList_inj.1 e))
          clear hyes hno b2 HL1 HB1 he HY
          go_wp2_with fail
          go_ret
          exact ⟨_, rfl, (fun h => by cases h), HB2.out⟩
    · obtain rfl : j = n := by omega
      have hnn := HN.out
      have HF : Hid (∀ s ∈ l, ∀ t ∈ l, kOf s = kOf t → s = t) := by
        have h := HI.out
        rw [hnn] at h
        exact h.done
      clear hnn
      go_wp2_with fail
      go_ret
      exact ⟨_, rfl, (fun _ => HF.out), HBr.out⟩
end Go.Proofs.Ytkbpkodakfknoaa
