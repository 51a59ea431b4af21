/- siloref46.Fit, siloref46.with at any locks. -/
import Derived.Test.YtffnkgfpbjmkbaaLkR1
namespace Go.Proofs.Ytffnkgfpbjmkbaa
open Go.RowKit
set_option linter.unusedVariables false
set_option linter.unusedSimpArgs false
def FitRes (now : Int) (l : List Lk) (w : World) (e : Ending) (w' : World) : Prop := ∃ b : Bool, e = .returned (.bool b) ∧ (b = true ↔ FitP now l) ∧ Below w.heap.size w w'
set_option maxRecDepth 20000 in
set_option maxHeartbeats 8000000 in
theorem rfit_any (now : Int) (v : Value) (l : List Lk) (w : World) (hv : LksB w v l) :
    Calls Try.prog 13 #[Lc now v] w (FitRes now l w) := by
  obtain ⟨A, c, rfl, h2, h3, h4⟩ := hv
  have hc9 : c ≤ 9223372036854775807 := by unfold maxLen at h3; omega
  have HC := Lib.hid h4
  obtain ⟨n, hn⟩ : ∃ n, n = l.length := ⟨_, rfl⟩
  have HN := Lib.hid hn
  rw [← hn] at h2 ⊢
  clear hn h3 h4
  unfold Lc
  have HB2 : Hid (Below w.heap.size w (w.alloc (.cells #[.int .i64 now, .slice A n c] 27))) := (Below.refl _ _).alloc (Nat.le_refl _) _
  have HSZ : Hid (w.heap.size < (w.alloc (.cells #[.int .i64 now, .slice A n c] 27)).heap.size) := by unfold Hid; simp
  have hX0 : (w.alloc (.cells #[.int .i64 now, .slice A n c] 27)).cell? ⟨w.heap.size, 0, none⟩ = some (.int .i64 now) := by simp
  have hX1 : (w.alloc (.cells #[.int .i64 now, .slice A n c] 27)).cell? ⟨w.heap.size, 1, none⟩ = some (.slice A n c) := by simp
  have HX0 := Lib.hid hX0
  have HX1 := Lib.hid hX1
  by_cases q1 : now < 0
  · have d1 : decide (now < 0) = true := by simpa using q1
    have hf : ¬ FitP now l := fun h => by have := h.1; omega
    clear q1
    go_enter Try.func13, Try.ntmps13
    go_wp2_with fail
    go_ret
    exact ⟨_, rfl, ⟨(fun h => by cases h), fun h => absurd h hf⟩, HB2.out⟩
  have d1 : decide (now < 0) = false := by simpa using q1
  by_cases q2 : (274877906944 : Int) < now
  · have d2 : decide ((274877906944 : Int) < now) = true := by simpa using q2
    have hf : ¬ FitP now l := fun h => by have := h.2.1; omega
    clear q1 q2
    go_enter Try.func13, Try.ntmps13
    go_wp2_with fail
    go_ret
    exact ⟨_, rfl, ⟨(fun h => by cases h), fun h => absurd h hf⟩, HB2.out⟩
  have d2 : decide ((274877906944 : Int) < now) = false := by simpa using q2
  by_cases q3 : 16 < n
  · have d3 : decide ((16 : Int) < (n : Int)) = true := by simp; omega
    have hf : ¬ FitP now l := fun h => by have := h.2.2.1; have := HN.out; omega
    clear q1 q2 q3
    go_enter Try.func13, Try.ntmps13
    go_wp2_with fail
    go_ret
    exact ⟨_, rfl, ⟨(fun h => by cases h), fun h => absurd h hf⟩, HB2.out⟩
  have d3 : decide ((16 : Int) < (n : Int)) = false := by simp; omega
  have hq0 : 0 ≤ now := by omega
  have hq1 : now ≤ 274877906944 := by omega
  have HQ : Hid (0 ≤ now ∧ now ≤ 274877906944 ∧ n ≤ 16) := ⟨by omega, by omega, by omega⟩
  clear q1 q2 q3
  go_enter Try.func13, Try.ntmps13
  go_wp2_with fail
  clear hX0 hX1
  go_loopw [3] (fun a wr => ∃ i : Nat, i ≤ n ∧ a = .int .i64 i ∧ Hid (∀ j (h : j + 1 < l.length), j + 1 < i → l[j].o < l[j + 1].o) ∧ Hid (∀ j (h : j < l.length), j < i → badB now n l[j] = false) ∧ Hid (Below (w.alloc (.cells #[.int .i64 now, .slice A n c] 27)).heap.size (w.alloc (.cells #[.int .i64 now, .slice A n c] 27)) wr)) (fun a _ => n - (intOf a).toNat)
  case atStart => exact ⟨0, Nat.zero_le _, rfl, (fun j _ h => absurd h (by omega)), (fun j _ h => absurd h (by omega)), Below.refl _ _⟩
  case round =>
    obtain ⟨i, hin, rfl, HK, HBD, HBr⟩ := hrel
    have x0 := (HBr.out.cell (p := ⟨w.heap.size, 0, none⟩) HSZ.out).trans HX0.out
    have x1 := (HBr.out.cell (p := ⟨w.heap.size, 1, none⟩) HSZ.out).trans HX1.out
    have hkr : w.heap.size < wr.heap.size := Nat.lt_of_lt_of_le HSZ.out HBr.out.size
    have HBW : Hid (Below w.heap.size w wr) := HB2.out.trans (HBr.out.mono HB2.out.size)
    by_cases hlt : i < n
    · have hlt' : (i : Int) < (n : Int) := by omega
      have hi0 : (0 : Int) ≤ (i : Int) := by omega
      have hnn := HN.out
      obtain ⟨b, off, rfl, hblt, hcells⟩ := HC.out (by omega)
      have hml : i < l.length := by omega
      have hbr : b < wr.heap.size := Nat.lt_of_lt_of_le hblt HBW.out.size
      obtain ⟨c1, c2, c3⟩ := hcells i hml
      have y1 := (HBW.out.cell (p := ⟨b, off + i * 3, none⟩) hblt).trans c1
      have y2 := (HBW.out.cell (p := ⟨b, off + i * 3 + 1, none⟩) hblt).trans c2
      have y3 := (HBW.out.cell (p := ⟨b, off + i * 3 + 2, none⟩) hblt).trans c3
      have HPR : Hid (∀ j, i = j + 1 → ∃ (hj : j < l.length), wr.cell? ⟨b, off + j * 3, none⟩ = some (.int .u64 l[j].o.toNat)) := fun j e => ⟨by omega, (HBW.out.cell (p := ⟨b, off + j * 3, none⟩) hblt).trans (hcells j (by omega)).1⟩
      have HB3 : Hid (badB now n l[i] = false → ∀ j (h : j < l.length), j < i + 1 → badB now n l[j] = false) := by
        intro hq j h h'
        by_cases e : j = i
        · subst e; exact hq
        · exact HBD.out j h (by omega)
      have HNB : Hid (badB now n l[i] = true → ¬ FitP now l) := fun hq hf => by
        have := hf.2.2.2.2 l[i] (List.getElem_mem hml)
        rw [← HN.out, hq] at this
        cases this
      have HRS : Hid (∀ j (hj : j < l.length), i = j + 1 → l[j].o < l[i].o → ∀ t (h : t + 1 < l.length), t + 1 < i + 1 → l[t].o < l[t + 1].o) := by
        intro j hj e hq t h1 h2
        by_cases e2 : t = j
        · subst e2; subst e; exact hq
        · exact HK.out t h1 (by omega)
      have HNR : Hid (∀ j (hj : j < l.length), i = j + 1 → ¬ l[j].o < l[i].o → ¬ FitP now l) := fun j hj e hq hf => by
        subst e
        exact hq (ris_at hf.2.2.2.1 j hml)
      generalize l[i] = x at *
      obtain ⟨xo, xs, xu⟩ := x
      dsimp only at *
      unfold badB at HB3 HNB
      dsimp only at HB3 HNB
      clear c1 c2 c3 hcells hnn
      obtain ⟨wq, hwq⟩ : ∃ wq, wq = wr.alloc (.cells #[.int .u64 xo.toNat, .bool xs, .int .i64 xu] 62) := ⟨_, rfl⟩
      have hbq : Below wr.heap.size wr wq := by rw [hwq]; exact (Below.refl _ _).alloc (Nat.le_refl _) _
      have v0 : wq.cell? ⟨wr.heap.size, 0, none⟩ = some (.int .u64 xo.toNat) := by rw [hwq]; simp
      have v1 : wq.cell? ⟨wr.heap.size, 1, none⟩ = some (.bool xs) := by rw [hwq]; simp
      have v2 : wq.cell? ⟨wr.heap.size, 2, none⟩ = some (.int .i64 xu) := by rw [hwq]; simp
      have s0 := (hbq.cell (p := ⟨w.heap.size, 0, none⟩) hkr).trans x0
      have s1 := (hbq.cell (p := ⟨w.heap.size, 1, none⟩) hkr).trans x1
      have HPQ : Hid (∀ j, i = j + 1 → ∃ (hj : j < l.length), wq.cell? ⟨b, off + j * 3, none⟩ = some (.int .u64 l[j].o.toNat)) := fun j e => by
        obtain ⟨hj, h⟩ := HPR.out j e
        exact ⟨hj, (hbq.cell (p := ⟨b, off + j * 3, none⟩) hbr).trans h⟩
      have HWQ := Lib.hid hwq.symm
      have HBQ := Lib.hid (HBr.out.trans (hbq.mono HBr.out.size))
      have HBWQ := Lib.hid (HBW.out.trans (hbq.mono HBW.out.size))
      clear hwq hbq HPR
      go_wp2_with fail
      rw [HWQ.out]
      clear x0 x1 y1 y2 y3 HWQ HBr HBW
      by_cases hz : i = 0
      · have g0 : decide ((0 : Int) < (i : Int)) = false := by simp; omega
        have g0' : decide (0 < i) = false := by simp; omega
        have HKN : Hid (∀ t (h : t + 1 < l.length), t + 1 < i + 1 → l[t].o < l[t + 1].o) := fun t h h' => absurd h' (by omega)
        clear hz
        by_cases t1 : xu ≤ now
        · have e1 : decide (xu ≤ now) = true := by simpa using t1
          have HF9 := Lib.hid (HNB.out (by rw [e1]; rfl))
          go_quiet (fail)
          go_wp2_with fail
          go_ret
          exact ⟨_, rfl, ⟨(fun h => by cases h), fun h => absurd h HF9.out⟩, Below.drewN HBWQ.out _⟩
        · have e1 : decide (xu ≤ now) = false := by simpa using t1
          by_cases t2 : now + 1000 < xu
          · have e2 : decide (now + 1000 < xu) = true := by simpa using t2
            have HF9 := Lib.hid (HNB.out (by rw [e1, e2]; rfl))
            go_quiet (fail)
            go_wp2_with fail
            go_ret
            exact ⟨_, rfl, ⟨(fun h => by cases h), fun h => absurd h HF9.out⟩, Below.drewN HBWQ.out _⟩
          · have e2 : decide (now + 1000 < xu) = false := by simpa using t2
            cases xs with
            | true =>
              have HBD3 := Lib.hid (HB3.out (by rw [e1, e2]; rfl))
              go_quiet (fail)
              go_wp2_with fail
              go_roundw
              case rel => exact ⟨i + 1, by omega, by go_num, HKN, HBD3, Below.drewN HBQ.out _⟩
              case measure => simp [intOf]; omega
            | false =>
              by_cases t3 : 1 < n
              · have e3 : decide (1 < n) = true := by simpa using t3
                have e3' : decide ((1 : Int) < (n : Int)) = true := by simp; omega
                have HF9 := Lib.hid (HNB.out (by rw [e1, e2, e3]; rfl))
                go_quiet (fail)
                go_wp2_with fail
                go_ret
                exact ⟨_, rfl, ⟨(fun h => by cases h), fun h => absurd h HF9.out⟩, Below.drewN HBWQ.out _⟩
              · have e3 : decide (1 < n) = false := by simpa using t3
                have e3' : decide ((1 : Int) < (n : Int)) = false := by simp; omega
                have HBD3 := Lib.hid (HB3.out (by rw [e1, e2, e3]; rfl))
                go_quiet (fail)
                go_wp2_with fail
                go_roundw
                case rel => exact ⟨i + 1, by omega, by go_num, HKN, HBD3, Below.drewN HBQ.out _⟩
                case measure => simp [intOf]; omega
      · obtain ⟨j, hj⟩ : ∃ j, i = j + 1 := ⟨i - 1, by omega⟩
        obtain ⟨hjl, r1⟩ := HPQ.out j hj
        have HR1 := Lib.hid (HRS.out j hjl hj)
        have HR2 := Lib.hid (HNR.out j hjl hj)
        have g0 : decide ((0 : Int) < (i : Int)) = true := by simp; omega
        have g0' : decide (0 < i) = true := by simp; omega
        have hjn : (j : Int) < (n : Int) := by omega
        have hj1 : (i : Int) - 1 = (j : Int) := by omega
        have hj0 : (0 : Int) ≤ (j : Int) := by omega
        generalize l[j].o = y at *
        clear hz hj HRS HNR HPQ
        by_cases hq : y < xo
        · have hq' : y.toNat < xo.toNat := hq
          have dq : decide ((xo.toNat : Int) ≤ (y.toNat : Int)) = false := by simp; omega
          have dq' : decide (xo.toNat ≤ y.toNat) = false := by simp; omega
          have HKN := Lib.hid (HR1.out hq)
          clear hq hq'
          by_cases t1 : xu ≤ now
          · have e1 : decide (xu ≤ now) = true := by simpa using t1
            have HF9 := Lib.hid (HNB.out (by rw [e1]; rfl))
            go_quiet (fail)
            go_wp2_with fail
            go_ret
            exact ⟨_, rfl, ⟨(fun h => by cases h), fun h => absurd h HF9.out⟩, Below.drewN HBWQ.out _⟩
          · have e1 : decide (xu ≤ now) = false := by simpa using t1
            by_cases t2 : now + 1000 < xu
            · have e2 : decide (now + 1000 < xu) = true := by simpa using t2
              have HF9 := Lib.hid (HNB.out (by rw [e1, e2]; rfl))
              go_quiet (fail)
              go_wp2_with fail
              go_ret
              exact ⟨_, rfl, ⟨(fun h => by cases h), fun h => absurd h HF9.out⟩, Below.drewN HBWQ.out _⟩
            · have e2 : decide (now + 1000 < xu) = false := by simpa using t2
              cases xs with
              | true =>
                have HBD3 := Lib.hid (HB3.out (by rw [e1, e2]; rfl))
                go_quiet (fail)
                go_wp2_with fail
                go_roundw
                case rel => exact ⟨i + 1, by omega, by go_num, HKN, HBD3, Below.drewN HBQ.out _⟩
                case measure => simp [intOf]; omega
              | false =>
                by_cases t3 : 1 < n
                · have e3 : decide (1 < n) = true := by simpa using t3
                  have e3' : decide ((1 : Int) < (n : Int)) = true := by simp; omega
                  have HF9 := Lib.hid (HNB.out (by rw [e1, e2, e3]; rfl))
                  go_quiet (fail)
                  go_wp2_with fail
                  go_ret
                  exact ⟨_, rfl, ⟨(fun h => by cases h), fun h => absurd h HF9.out⟩, Below.drewN HBWQ.out _⟩
                · have e3 : decide (1 < n) = false := by simpa using t3
                  have e3' : decide ((1 : Int) < (n : Int)) = false := by simp; omega
                  exfalso; omega
        · have hq' : ¬ y.toNat < xo.toNat := hq
          have dq : decide ((xo.toNat : Int) ≤ (y.toNat : Int)) = true := by simp; omega
          have dq' : decide (xo.toNat ≤ y.toNat) = true := by simp; omega
          have HNF := Lib.hid (HR2.out hq)
          clear hq hq'
          have HF9 := Lib.hid (HNF.out)
          go_quiet (fail)
          go_wp2_with fail
          go_ret
          exact ⟨_, rfl, ⟨(fun h => by cases h), fun h => absurd h HF9.out⟩, Below.drewN HBWQ.out _⟩
    · obtain rfl : i = n := by omega
      have hFit : Hid (FitP now l) := by
        have h1 := HQ.out
        have h2 := HN.out
        refine ⟨h1.1, h1.2.1, by omega, ris_of fun j h => HK.out j h (by omega), fun x hx => ?_⟩
        obtain ⟨j, hj, rfl⟩ := List.getElem_of_mem hx
        rw [← h2]
        exact HBD.out j hj (by omega)
      go_wp2_with fail
      go_ret
      exact ⟨_, rfl, ⟨fun _ => hFit.out, fun _ => rfl⟩, HBW.out⟩
end Go.Proofs.Ytffnkgfpbjmkbaa
