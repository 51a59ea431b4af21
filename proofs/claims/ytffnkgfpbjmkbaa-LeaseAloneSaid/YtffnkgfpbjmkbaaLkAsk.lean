/- lease: Ask at any locks. -/
import Derived.Test.YtffnkgfpbjmkbaaLkRen2
import Derived.Deep.RegionHeld3
namespace Go.Proofs.Ytffnkgfpbjmkbaa
open Go.RowKit
set_option linter.unusedVariables false
set_option linter.unusedSimpArgs false
def insL (l : List Lk) (i : Nat) (x : Lk) : List Lk := l.take i ++ [x] ++ l.drop i
def aloneB (l : List Lk) : Bool := l.any fun x => !x.s
def askP (now : Int) (l : List Lk) (owner : UInt64) (shared : Bool) (ticks : Int) : List Lk × Int :=
  if tickB ticks = false then (l, 4) else if hasO l owner = true then (l, 6) else if aloneB l = true ∨ (shared = false ∧ 0 < l.length) then (l, 14) else if 16 ≤ l.length then (l, 9) else (insL l (placeO l owner) ⟨owner, shared, now + ticks⟩, 0)
theorem insL_len (l : List Lk) (i : Nat) (x : Lk) (h : i ≤ l.length) : (insL l i x).length = l.length + 1 := by
  unfold insL; simp; omega
def NewRow (w : World) (vb : Nat) (x : Lk) : Prop := w.heap[vb]? = some (.cells #[.int .u64 x.o.toNat, .bool x.s, .int .i64 x.u] 62 (0, 0))
theorem insertL_any (B vb i n : Nat) (v : Value) (l : List Lk) (x : Lk) (w : World) (hn : n = l.length) (ho : OwnL w B v n (lkC l)) (hi : i ≤ n) (hl : n ≤ 1000000) (hB : B ≤ w.heap.size) (hv : NewRow w vb x) (hne : v.ownBlock ≠ some vb) :
    Calls Try.prog 29 #[v, .int .i64 i, .slice (some ⟨vb, 0, none⟩) 1 1] w fun e w' => ∃ gz cz, e = .returned (.slice (some ⟨gz, 0, none⟩) (n + 1) cz) ∧ RowL w' gz (n + 1) cz (insL l i x) ∧ B ≤ gz ∧ Below B w w' := by
  have h := insert_own B n i vb 1 v (lkC l) x.c w hi (by omega) ho hB (by unfold NewRow at hv; simpa [Lk.c] using hv) hne rfl (lkC_one l) (by intro u hu; simp [Lk.c] at hu; rcases hu with rfl | rfl | rfl <;> rfl)
  refine h.mono ?_
  rintro e w' ⟨v', rfl, h1, h2⟩
  have hc : (lkC l).take (i * 3) ++ x.c ++ (lkC l).drop (i * 3) = lkC (insL l i x) := by
    rw [lkC_take, lkC_drop]; unfold insL; rw [lkC_append, lkC_append]; simp [lkC]
  rw [hc] at h1
  have hlen := insL_len l i x (by omega)
  have h1' : OwnL w' B v' (insL l i x).length (lkC (insL l i x)) := by rw [hlen, ← hn]; exact h1
  have hbl : Below B w w' := (Below.refl _ _).grown h2 hB (fun k hk => by
    rcases ho.2 with ⟨hv0, _⟩ | ⟨g, cap, cur, hv0, hb, _⟩
    · rw [hv0] at hk; cases hk
    · rw [hv0] at hk; cases hk; exact hb)
  rcases OwnL.row h1' with ⟨_, h0⟩ | ⟨gz, cz, rfl, hg, hr⟩
  · rw [h0] at hlen; simp at hlen
  · rw [hlen, ← hn] at hr ⊢
    exact ⟨gz, cz, rfl, hr, hg, hbl⟩
set_option maxRecDepth 20000 in
set_option maxHeartbeats 8000000 in
theorem ask_any (now : Int) (v : Value) (l : List Lk) (owner : UInt64) (shared : Bool) (ticks : Int) (w : World) (hv : LksN w v l) (hr : RisO l) (hl : l.length ≤ 1000000) (h0 : 0 ≤ now) (h1 : now ≤ 1000000000000) :
    Calls Try.prog 7 #[Lc now v, .int .u64 owner.toNat, .bool shared, .int .i64 ticks] w fun e w' => ∃ v', e = .returned (.tuple #[Lc now v', .int .i64 (askP now l owner shared ticks).2]) ∧ LksN w' v' (askP now l owner shared ticks).1 ∧ Below w.heap.size w w' := by
  have HV := Lib.hid hv
  have HT := Lib.hid (tick_any ticks)
  have HAT := Lib.hid (fun p w' (b : Below w.heap.size w w') => atL_any p v l owner w' (hv.1.below b (Nat.le_refl _)) hr (by omega))
  have HCn := Lib.hid (fun w' (b : Below w.heap.size w w') => conA_any v l (fun x => !x.s) w' (hv.1.below b (Nat.le_refl _)) (by omega) (fun x _ w2 _ => ask1_any x w2))
  have HCl := Lib.hid (fun w' (b : Below w.heap.size w w') => cloneL_any v l w' (hv.below b (Nat.le_refl _)) (by omega))
  have HPL := placeO_le l owner
  obtain ⟨A, c, rfl, h2, h3, h4⟩ := hv.1
  have hc9 : c ≤ 9223372036854775807 := by unfold maxLen at h3; omega
  unfold Lc
  have HB3 : Hid (Below w.heap.size w (((w.alloc (.cells #[.int .i64 now, .slice A l.length c] 27)).alloc (.cells #[.int .i64 0, .slice none 0 0] 27)).alloc (.cells #[.int .i64 now, .slice A l.length c] 57))) := (((Below.refl _ _).alloc (Nat.le_refl _) _).alloc (by simp) _).alloc (by simp; omega) _
  have H3 := Lib.hid (two3 w (.int .i64 now) (.slice A l.length c) 27 (.int .i64 0) (.slice none 0 0) 27 (.int .i64 now) (.slice A l.length c) 57)
  unfold askP
  rw [show (l.any fun x => !x.s) = aloneB l from rfl] at HCn
  obtain ⟨n, hn⟩ : ∃ n, n = l.length := ⟨_, rfl⟩
  have HN := Lib.hid hn
  obtain ⟨i, hi⟩ : ∃ i, i = placeO l owner := ⟨_, rfl⟩
  rw [← hi] at HPL HAT ⊢
  rw [← hn] at HAT HCl HCn HB3 H3 HPL HV hl
  have HLN := Lib.hid hl
  rw [← hn]
  clear hn hi h2 h3 h4 hv hr hl
  have hin : i ≤ n := HPL
  clear HPL
  cases ht : tickB ticks with
  | false =>
    rw [ht] at HT
    rw [if_pos rfl]
    clear ht HCl
    go_enter Try.func7, Try.ntmps7
    go_wp2_with fail
    refine Calls.mono (HAT.out _ _ HB3.out H3.out.2.2.2.2.1) ?_
    rintro e w1 ⟨rfl, b1⟩
    have HB1 : Hid (Below w.heap.size w w1) := HB3.out.trans (b1.mono HB3.out.size)
    have HBE : Hid (Below (((w.alloc (.cells #[.int .i64 now, .slice A n c] 27)).alloc (.cells #[.int .i64 0, .slice none 0 0] 27)).alloc (.cells #[.int .i64 now, .slice A n c] 57)).heap.size (((w.alloc (.cells #[.int .i64 now, .slice A n c] 27)).alloc (.cells #[.int .i64 0, .slice none 0 0] 27)).alloc (.cells #[.int .i64 now, .slice A n c] 57)) w1) := b1
    have X1 := (b1.cell (p := ⟨w.heap.size, 1, none⟩) (by simp; omega)).trans H3.out.2.1
    clear b1
    go_wp2_with fail
    refine (HCn.out _ HB1.out).mono ?_
    rintro e w2 ⟨rfl, b2⟩
    have HB2 : Hid (Below w.heap.size w w2) := HB1.out.trans (b2.mono HB1.out.size)
    have HBE2 : Hid (Below (((w.alloc (.cells #[.int .i64 now, .slice A n c] 27)).alloc (.cells #[.int .i64 0, .slice none 0 0] 27)).alloc (.cells #[.int .i64 now, .slice A n c] 57)).heap.size (((w.alloc (.cells #[.int .i64 now, .slice A n c] 27)).alloc (.cells #[.int .i64 0, .slice none 0 0] 27)).alloc (.cells #[.int .i64 now, .slice A n c] 57)) w2) := HBE.out.trans (b2.mono HBE.out.size)
    clear b2 X1 HB1 HBE
    go_wp2_with fail
    refine (HT.out _).mono ?_
    rintro e w' ⟨rfl, rfl⟩
    have HSX2 : Hid (w.heap.size + 3 ≤ w2.heap.size) := by unfold Hid; have := HBE2.out.size; simp at this; omega
    have X0 := (HBE2.out.cell (p := ⟨w.heap.size, 0, none⟩) (by simp; omega)).trans H3.out.1
    have X1 := (HBE2.out.cell (p := ⟨w.heap.size, 1, none⟩) (by simp; omega)).trans H3.out.2.1
    have R0 := (HBE2.out.cell (p := ⟨w.heap.size + 1, 0, none⟩) (by simp)).trans H3.out.2.2.1
    have R1 := (HBE2.out.cell (p := ⟨w.heap.size + 1, 1, none⟩) (by simp)).trans H3.out.2.2.2.1
    have FR0 := (HBE2.out.frozen (p := ⟨w.heap.size + 1, 0, none⟩) (by simp)).trans (H3.out.2.2.2.2.2.2.1 0)
    have FR1 := (HBE2.out.frozen (p := ⟨w.heap.size + 1, 1, none⟩) (by simp)).trans (H3.out.2.2.2.2.2.2.1 1)
    have K0 := (HBE2.out.cell (p := ⟨w.heap.size + 1 + 1, 0, none⟩) (by simp)).trans H3.out.2.2.2.2.2.1
    have K1 := (HBE2.out.cell (p := ⟨w.heap.size + 1 + 1, 1, none⟩) (by simp)).trans H3.out.2.2.2.2.1
    have FK := (HBE2.out.frozen (p := ⟨w.heap.size + 1 + 1, 1, none⟩) (by simp)).trans (H3.out.2.2.2.2.2.2.2 1)
    clear HBE2 H3 HAT HCn HT HB3
    have HEND : Hid (Below w.heap.size w ((w2.setCell ⟨w.heap.size + 1, 0, none⟩ (.int .i64 now)).setCell ⟨w.heap.size + 1, 1, none⟩ (.slice A n c))) := (HB2.out.setCell (p := ⟨w.heap.size + 1, 0, none⟩) (by dsimp only; omega) _).setCell (p := ⟨w.heap.size + 1, 1, none⟩) (by dsimp only; omega) _
    clear K0 K1 FK
    go_wp2_with fail
    (try simp only [Exit.inBlock, Exit.then])
    refine bodyPost_cell (V := .agg #[.int .i64 now, .slice A n c]) rfl rfl ?_ rfl ?_
    · go_simp
    · exact ⟨_, rfl, HV.out.below HEND.out (Nat.le_refl _), HEND.out⟩
  | true =>
    rw [ht] at HT
    have HTB : 0 < ticks ∧ ticks ≤ 1000 := by unfold tickB at ht; simpa using ht
    obtain ⟨ht0, ht1⟩ := HTB
    rw [if_neg (by decide)]
    clear ht
    cases hh : hasO l owner with
    | true =>
      rw [hh] at HAT
      rw [if_pos rfl]
      clear hh HCl
      go_enter Try.func7, Try.ntmps7
      go_wp2_with fail
      refine Calls.mono (HAT.out _ _ HB3.out H3.out.2.2.2.2.1) ?_
      rintro e w1 ⟨rfl, b1⟩
      have HB1 : Hid (Below w.heap.size w w1) := HB3.out.trans (b1.mono HB3.out.size)
      have HBE : Hid (Below (((w.alloc (.cells #[.int .i64 now, .slice A n c] 27)).alloc (.cells #[.int .i64 0, .slice none 0 0] 27)).alloc (.cells #[.int .i64 now, .slice A n c] 57)).heap.size (((w.alloc (.cells #[.int .i64 now, .slice A n c] 27)).alloc (.cells #[.int .i64 0, .slice none 0 0] 27)).alloc (.cells #[.int .i64 now, .slice A n c] 57)) w1) := b1
      have X1 := (b1.cell (p := ⟨w.heap.size, 1, none⟩) (by simp; omega)).trans H3.out.2.1
      clear b1
      go_wp2_with fail
      refine (HCn.out _ HB1.out).mono ?_
      rintro e w2 ⟨rfl, b2⟩
      have HB2 : Hid (Below w.heap.size w w2) := HB1.out.trans (b2.mono HB1.out.size)
      have HBE2 : Hid (Below (((w.alloc (.cells #[.int .i64 now, .slice A n c] 27)).alloc (.cells #[.int .i64 0, .slice none 0 0] 27)).alloc (.cells #[.int .i64 now, .slice A n c] 57)).heap.size (((w.alloc (.cells #[.int .i64 now, .slice A n c] 27)).alloc (.cells #[.int .i64 0, .slice none 0 0] 27)).alloc (.cells #[.int .i64 now, .slice A n c] 57)) w2) := HBE.out.trans (b2.mono HBE.out.size)
      clear b2 X1 HB1 HBE
      go_wp2_with fail
      refine (HT.out _).mono ?_
      rintro e w' ⟨rfl, rfl⟩
      have HSX2 : Hid (w.heap.size + 3 ≤ w2.heap.size) := by unfold Hid; have := HBE2.out.size; simp at this; omega
      have X0 := (HBE2.out.cell (p := ⟨w.heap.size, 0, none⟩) (by simp; omega)).trans H3.out.1
      have X1 := (HBE2.out.cell (p := ⟨w.heap.size, 1, none⟩) (by simp; omega)).trans H3.out.2.1
      have R0 := (HBE2.out.cell (p := ⟨w.heap.size + 1, 0, none⟩) (by simp)).trans H3.out.2.2.1
      have R1 := (HBE2.out.cell (p := ⟨w.heap.size + 1, 1, none⟩) (by simp)).trans H3.out.2.2.2.1
      have FR0 := (HBE2.out.frozen (p := ⟨w.heap.size + 1, 0, none⟩) (by simp)).trans (H3.out.2.2.2.2.2.2.1 0)
      have FR1 := (HBE2.out.frozen (p := ⟨w.heap.size + 1, 1, none⟩) (by simp)).trans (H3.out.2.2.2.2.2.2.1 1)
      have K0 := (HBE2.out.cell (p := ⟨w.heap.size + 1 + 1, 0, none⟩) (by simp)).trans H3.out.2.2.2.2.2.1
      have K1 := (HBE2.out.cell (p := ⟨w.heap.size + 1 + 1, 1, none⟩) (by simp)).trans H3.out.2.2.2.2.1
      have FK := (HBE2.out.frozen (p := ⟨w.heap.size + 1 + 1, 1, none⟩) (by simp)).trans (H3.out.2.2.2.2.2.2.2 1)
      clear HBE2 H3 HAT HCn HT HB3
      have HEND : Hid (Below w.heap.size w ((w2.setCell ⟨w.heap.size + 1, 0, none⟩ (.int .i64 now)).setCell ⟨w.heap.size + 1, 1, none⟩ (.slice A n c))) := (HB2.out.setCell (p := ⟨w.heap.size + 1, 0, none⟩) (by dsimp only; omega) _).setCell (p := ⟨w.heap.size + 1, 1, none⟩) (by dsimp only; omega) _
      clear K0 K1 FK
      go_wp2_with fail
      (try simp only [Exit.inBlock, Exit.then])
      refine bodyPost_cell (V := .agg #[.int .i64 now, .slice A n c]) rfl rfl ?_ rfl ?_
      · go_simp
      · exact ⟨_, rfl, HV.out.below HEND.out (Nat.le_refl _), HEND.out⟩
    | false =>
      rw [hh] at HAT
      rw [if_neg (by decide)]
      clear hh
      cases ha : aloneB l with
      | true =>
        rw [ha] at HCn
        rw [if_pos (Or.inl rfl)]
        clear ha HCl
        go_enter Try.func7, Try.ntmps7
        go_wp2_with fail
        refine Calls.mono (HAT.out _ _ HB3.out H3.out.2.2.2.2.1) ?_
        rintro e w1 ⟨rfl, b1⟩
        have HB1 : Hid (Below w.heap.size w w1) := HB3.out.trans (b1.mono HB3.out.size)
        have HBE : Hid (Below (((w.alloc (.cells #[.int .i64 now, .slice A n c] 27)).alloc (.cells #[.int .i64 0, .slice none 0 0] 27)).alloc (.cells #[.int .i64 now, .slice A n c] 57)).heap.size (((w.alloc (.cells #[.int .i64 now, .slice A n c] 27)).alloc (.cells #[.int .i64 0, .slice none 0 0] 27)).alloc (.cells #[.int .i64 now, .slice A n c] 57)) w1) := b1
        have X1 := (b1.cell (p := ⟨w.heap.size, 1, none⟩) (by simp; omega)).trans H3.out.2.1
        clear b1
        go_wp2_with fail
        refine (HCn.out _ HB1.out).mono ?_
        rintro e w2 ⟨rfl, b2⟩
        have HB2 : Hid (Below w.heap.size w w2) := HB1.out.trans (b2.mono HB1.out.size)
        have HBE2 : Hid (Below (((w.alloc (.cells #[.int .i64 now, .slice A n c] 27)).alloc (.cells #[.int .i64 0, .slice none 0 0] 27)).alloc (.cells #[.int .i64 now, .slice A n c] 57)).heap.size (((w.alloc (.cells #[.int .i64 now, .slice A n c] 27)).alloc (.cells #[.int .i64 0, .slice none 0 0] 27)).alloc (.cells #[.int .i64 now, .slice A n c] 57)) w2) := HBE.out.trans (b2.mono HBE.out.size)
        clear b2 X1 HB1 HBE
        go_wp2_with fail
        refine (HT.out _).mono ?_
        rintro e w' ⟨rfl, rfl⟩
        have HSX2 : Hid (w.heap.size + 3 ≤ w2.heap.size) := by unfold Hid; have := HBE2.out.size; simp at this; omega
        have X0 := (HBE2.out.cell (p := ⟨w.heap.size, 0, none⟩) (by simp; omega)).trans H3.out.1
        have X1 := (HBE2.out.cell (p := ⟨w.heap.size, 1, none⟩) (by simp; omega)).trans H3.out.2.1
        have R0 := (HBE2.out.cell (p := ⟨w.heap.size + 1, 0, none⟩) (by simp)).trans H3.out.2.2.1
        have R1 := (HBE2.out.cell (p := ⟨w.heap.size + 1, 1, none⟩) (by simp)).trans H3.out.2.2.2.1
        have FR0 := (HBE2.out.frozen (p := ⟨w.heap.size + 1, 0, none⟩) (by simp)).trans (H3.out.2.2.2.2.2.2.1 0)
        have FR1 := (HBE2.out.frozen (p := ⟨w.heap.size + 1, 1, none⟩) (by simp)).trans (H3.out.2.2.2.2.2.2.1 1)
        have K0 := (HBE2.out.cell (p := ⟨w.heap.size + 1 + 1, 0, none⟩) (by simp)).trans H3.out.2.2.2.2.2.1
        have K1 := (HBE2.out.cell (p := ⟨w.heap.size + 1 + 1, 1, none⟩) (by simp)).trans H3.out.2.2.2.2.1
        have FK := (HBE2.out.frozen (p := ⟨w.heap.size + 1 + 1, 1, none⟩) (by simp)).trans (H3.out.2.2.2.2.2.2.2 1)
        clear HBE2 H3 HAT HCn HT HB3
        have HEND : Hid (Below w.heap.size w ((w2.setCell ⟨w.heap.size + 1, 0, none⟩ (.int .i64 now)).setCell ⟨w.heap.size + 1, 1, none⟩ (.slice A n c))) := (HB2.out.setCell (p := ⟨w.heap.size + 1, 0, none⟩) (by dsimp only; omega) _).setCell (p := ⟨w.heap.size + 1, 1, none⟩) (by dsimp only; omega) _
        clear K0 K1 FK
        go_wp2_with fail
        (try simp only [Exit.inBlock, Exit.then])
        refine bodyPost_cell (V := .agg #[.int .i64 now, .slice A n c]) rfl rfl ?_ rfl ?_
        · go_simp
        · exact ⟨_, rfl, HV.out.below HEND.out (Nat.le_refl _), HEND.out⟩
      | false =>
        rw [ha] at HCn
        clear ha
        cases shared with
        | false =>
          by_cases hn0 : 0 < n
          · have d1 : decide ((0 : Int) < (n : Int)) = true := by simp; omega
            have d2 : decide (0 < n) = true := by simp; omega
            rw [if_pos (Or.inr ⟨rfl, hn0⟩)]
            clear HCl hn0
            go_enter Try.func7, Try.ntmps7
            go_wp2_with fail
            refine Calls.mono (HAT.out _ _ HB3.out H3.out.2.2.2.2.1) ?_
            rintro e w1 ⟨rfl, b1⟩
            have HB1 : Hid (Below w.heap.size w w1) := HB3.out.trans (b1.mono HB3.out.size)
            have HBE : Hid (Below (((w.alloc (.cells #[.int .i64 now, .slice A n c] 27)).alloc (.cells #[.int .i64 0, .slice none 0 0] 27)).alloc (.cells #[.int .i64 now, .slice A n c] 57)).heap.size (((w.alloc (.cells #[.int .i64 now, .slice A n c] 27)).alloc (.cells #[.int .i64 0, .slice none 0 0] 27)).alloc (.cells #[.int .i64 now, .slice A n c] 57)) w1) := b1
            have X1 := (b1.cell (p := ⟨w.heap.size, 1, none⟩) (by simp; omega)).trans H3.out.2.1
            clear b1
            go_wp2_with fail
            refine (HCn.out _ HB1.out).mono ?_
            rintro e w2 ⟨rfl, b2⟩
            have HB2 : Hid (Below w.heap.size w w2) := HB1.out.trans (b2.mono HB1.out.size)
            have HBE2 : Hid (Below (((w.alloc (.cells #[.int .i64 now, .slice A n c] 27)).alloc (.cells #[.int .i64 0, .slice none 0 0] 27)).alloc (.cells #[.int .i64 now, .slice A n c] 57)).heap.size (((w.alloc (.cells #[.int .i64 now, .slice A n c] 27)).alloc (.cells #[.int .i64 0, .slice none 0 0] 27)).alloc (.cells #[.int .i64 now, .slice A n c] 57)) w2) := HBE.out.trans (b2.mono HBE.out.size)
            clear b2 X1 HB1 HBE
            go_wp2_with fail
            refine (HT.out _).mono ?_
            rintro e w' ⟨rfl, rfl⟩
            have HSX2 : Hid (w.heap.size + 3 ≤ w2.heap.size) := by unfold Hid; have := HBE2.out.size; simp at this; omega
            have X0 := (HBE2.out.cell (p := ⟨w.heap.size, 0, none⟩) (by simp; omega)).trans H3.out.1
            have X1 := (HBE2.out.cell (p := ⟨w.heap.size, 1, none⟩) (by simp; omega)).trans H3.out.2.1
            have R0 := (HBE2.out.cell (p := ⟨w.heap.size + 1, 0, none⟩) (by simp)).trans H3.out.2.2.1
            have R1 := (HBE2.out.cell (p := ⟨w.heap.size + 1, 1, none⟩) (by simp)).trans H3.out.2.2.2.1
            have FR0 := (HBE2.out.frozen (p := ⟨w.heap.size + 1, 0, none⟩) (by simp)).trans (H3.out.2.2.2.2.2.2.1 0)
            have FR1 := (HBE2.out.frozen (p := ⟨w.heap.size + 1, 1, none⟩) (by simp)).trans (H3.out.2.2.2.2.2.2.1 1)
            have K0 := (HBE2.out.cell (p := ⟨w.heap.size + 1 + 1, 0, none⟩) (by simp)).trans H3.out.2.2.2.2.2.1
            have K1 := (HBE2.out.cell (p := ⟨w.heap.size + 1 + 1, 1, none⟩) (by simp)).trans H3.out.2.2.2.2.1
            have FK := (HBE2.out.frozen (p := ⟨w.heap.size + 1 + 1, 1, none⟩) (by simp)).trans (H3.out.2.2.2.2.2.2.2 1)
            clear HBE2 H3 HAT HCn HT HB3
            have HEND : Hid (Below w.heap.size w ((w2.setCell ⟨w.heap.size + 1, 0, none⟩ (.int .i64 now)).setCell ⟨w.heap.size + 1, 1, none⟩ (.slice A n c))) := (HB2.out.setCell (p := ⟨w.heap.size + 1, 0, none⟩) (by dsimp only; omega) _).setCell (p := ⟨w.heap.size + 1, 1, none⟩) (by dsimp only; omega) _
            clear K0 K1 FK
            go_wp2_with fail
            (try simp only [Exit.inBlock, Exit.then])
            refine bodyPost_cell (V := .agg #[.int .i64 now, .slice A n c]) rfl rfl ?_ rfl ?_
            · go_simp
            · exact ⟨_, rfl, HV.out.below HEND.out (Nat.le_refl _), HEND.out⟩
          · have d1 : decide ((0 : Int) < (n : Int)) = false := by simp; omega
            have d2 : decide (0 < n) = false := by simp; omega
            have d3 : decide ((16 : Int) ≤ (n : Int)) = false := by simp; omega
            have d4 : decide (16 ≤ n) = false := by simp; omega
            rw [if_neg (by rintro (h | h); cases h; exact hn0 h.2), if_neg (by omega)]
            clear hn0
            go_enter Try.func7, Try.ntmps7
            go_wp2_with fail
            refine Calls.mono (HAT.out _ _ HB3.out H3.out.2.2.2.2.1) ?_
            rintro e w1 ⟨rfl, b1⟩
            have HB1 : Hid (Below w.heap.size w w1) := HB3.out.trans (b1.mono HB3.out.size)
            have HBE : Hid (Below (((w.alloc (.cells #[.int .i64 now, .slice A n c] 27)).alloc (.cells #[.int .i64 0, .slice none 0 0] 27)).alloc (.cells #[.int .i64 now, .slice A n c] 57)).heap.size (((w.alloc (.cells #[.int .i64 now, .slice A n c] 27)).alloc (.cells #[.int .i64 0, .slice none 0 0] 27)).alloc (.cells #[.int .i64 now, .slice A n c] 57)) w1) := b1
            have X1 := (b1.cell (p := ⟨w.heap.size, 1, none⟩) (by simp; omega)).trans H3.out.2.1
            clear b1
            go_wp2_with fail
            refine (HCn.out _ HB1.out).mono ?_
            rintro e w2 ⟨rfl, b2⟩
            have HB2 : Hid (Below w.heap.size w w2) := HB1.out.trans (b2.mono HB1.out.size)
            have HBE2 : Hid (Below (((w.alloc (.cells #[.int .i64 now, .slice A n c] 27)).alloc (.cells #[.int .i64 0, .slice none 0 0] 27)).alloc (.cells #[.int .i64 now, .slice A n c] 57)).heap.size (((w.alloc (.cells #[.int .i64 now, .slice A n c] 27)).alloc (.cells #[.int .i64 0, .slice none 0 0] 27)).alloc (.cells #[.int .i64 now, .slice A n c] 57)) w2) := HBE.out.trans (b2.mono HBE.out.size)
            clear b2 X1 HB1 HBE
            go_wp2_with fail
            refine (HT.out _).mono ?_
            rintro e w' ⟨rfl, rfl⟩
            have HSX2 : Hid (w.heap.size + 3 ≤ w2.heap.size) := by unfold Hid; have := HBE2.out.size; simp at this; omega
            have X0 := (HBE2.out.cell (p := ⟨w.heap.size, 0, none⟩) (by simp; omega)).trans H3.out.1
            have X1 := (HBE2.out.cell (p := ⟨w.heap.size, 1, none⟩) (by simp; omega)).trans H3.out.2.1
            have R0 := (HBE2.out.cell (p := ⟨w.heap.size + 1, 0, none⟩) (by simp)).trans H3.out.2.2.1
            have R1 := (HBE2.out.cell (p := ⟨w.heap.size + 1, 1, none⟩) (by simp)).trans H3.out.2.2.2.1
            have FR0 := (HBE2.out.frozen (p := ⟨w.heap.size + 1, 0, none⟩) (by simp)).trans (H3.out.2.2.2.2.2.2.1 0)
            have FR1 := (HBE2.out.frozen (p := ⟨w.heap.size + 1, 1, none⟩) (by simp)).trans (H3.out.2.2.2.2.2.2.1 1)
            have K0 := (HBE2.out.cell (p := ⟨w.heap.size + 1 + 1, 0, none⟩) (by simp)).trans H3.out.2.2.2.2.2.1
            have K1 := (HBE2.out.cell (p := ⟨w.heap.size + 1 + 1, 1, none⟩) (by simp)).trans H3.out.2.2.2.2.1
            have FK := (HBE2.out.frozen (p := ⟨w.heap.size + 1 + 1, 1, none⟩) (by simp)).trans (H3.out.2.2.2.2.2.2.2 1)
            clear HBE2 H3 HAT HCn HT HB3
            go_wp2_with fail
            refine wp_region_noPanic ?_
            refine wp_region_held_drew (S := fun w' => w'.cell? ⟨w.heap.size, 0, none⟩ = some (.int .i64 now) ∧ w'.cell? ⟨w.heap.size, 1, none⟩ = some (.slice A n c)) (by kernel_rfl) ⟨X0, X1⟩ (fun hHeld => ?_)
            obtain ⟨wx, hwx⟩ : ∃ wx, wx = w2.drew := ⟨_, rfl⟩
            have HSX : Hid (w.heap.size + 3 ≤ wx.heap.size) := by unfold Hid; rw [hwx]; exact HSX2.out
            have X0 : wx.cell? ⟨w.heap.size, 0, none⟩ = some (.int .i64 now) := by rw [hwx]; exact X0
            have X1 : wx.cell? ⟨w.heap.size, 1, none⟩ = some (.slice A n c) := by rw [hwx]; exact X1
            have R0 : wx.cell? ⟨w.heap.size + 1, 0, none⟩ = some (.int .i64 0) := by rw [hwx]; exact R0
            have R1 : wx.cell? ⟨w.heap.size + 1, 1, none⟩ = some (.slice none 0 0) := by rw [hwx]; exact R1
            have K0 : wx.cell? ⟨w.heap.size + 1 + 1, 0, none⟩ = some (.int .i64 now) := by rw [hwx]; exact K0
            have K1 : wx.cell? ⟨w.heap.size + 1 + 1, 1, none⟩ = some (.slice A n c) := by rw [hwx]; exact K1
            have FK : wx.frozen? ⟨w.heap.size + 1 + 1, 1, none⟩ = false := by rw [hwx]; exact FK
            have FR0 : wx.frozen? ⟨w.heap.size + 1, 0, none⟩ = false := by rw [hwx]; exact FR0
            have FR1 : wx.frozen? ⟨w.heap.size + 1, 1, none⟩ = false := by rw [hwx]; exact FR1
            have HBx : Hid (Below w.heap.size w wx) := by unfold Hid; rw [hwx]; exact HB2.out.drew
            rw [← hwx] at hHeld ⊢
            clear hwx HB2 HSX2
            refine' wpAnyH_take (i := 0) (v := ?v1) rfl (by kernel_rfl) (by kernel_rfl) (by kernel_rfl) (fun _ _ _ h => h) (Or.inl ⟨by kernel_rfl, ?hy1⟩) (by assumption) ?rest1
            case hy1 => (intro w hSw; (try dsimp only at hSw); go_simp; try with_reducible rfl)
            try simp only [Act.put, List.setIfInBounds_toArray, List.set_cons_zero, List.set_cons_succ]
            refine' wpAnyH_take (i := 1) (v := ?v2) rfl (by kernel_rfl) (by kernel_rfl) (by kernel_rfl) (fun _ _ _ h => h) (Or.inl ⟨by kernel_rfl, ?hy2⟩) (by assumption) ?rest2
            case hy2 => (intro w hSw; (try dsimp only at hSw); go_simp; try with_reducible rfl)
            try simp only [Act.put, List.setIfInBounds_toArray, List.set_cons_zero, List.set_cons_succ]
            refine wpAnyH_take (i := 2) (v := .slice A n c) rfl (by kernel_rfl) (by kernel_rfl) (by kernel_rfl) (fun _ _ _ h => h) (Or.inl ⟨by kernel_rfl, ?_⟩) hHeld ?_
            · intro w hSw
              have hh := hSw.2
              go_simp
            try simp only [Act.put, List.setIfInBounds_toArray, List.set_cons_zero, List.set_cons_succ]
            refine' wpAnyH_take (i := 4) (v := ?v3) rfl (by kernel_rfl) (by kernel_rfl) (by kernel_rfl) (fun _ _ _ h => h) (Or.inl ⟨by kernel_rfl, ?hy3⟩) (by assumption) ?rest3
            case hy3 => (intro w hSw; (try dsimp only at hSw); go_simp; try with_reducible rfl)
            try simp only [Act.put, List.setIfInBounds_toArray, List.set_cons_zero, List.set_cons_succ]
            refine' wpAnyH_take (i := 5) (v := ?v4) rfl (by kernel_rfl) (by kernel_rfl) (by kernel_rfl) (fun _ _ _ h => h) (Or.inl ⟨by kernel_rfl, ?hy4⟩) (by assumption) ?rest4
            case hy4 => (intro w hSw; (try dsimp only at hSw); go_simp; try with_reducible rfl)
            try simp only [Act.put, List.setIfInBounds_toArray, List.set_cons_zero, List.set_cons_succ]
            refine' wpAnyH_take (i := 6) (v := ?v5) rfl (by kernel_rfl) (by kernel_rfl) (by kernel_rfl) (fun _ _ _ h => h) (Or.inl ⟨by kernel_rfl, ?hy5⟩) (by assumption) ?rest5
            case hy5 => (intro w hSw; (try dsimp only at hSw); go_simp; try with_reducible rfl)
            try simp only [Act.put, List.setIfInBounds_toArray, List.set_cons_zero, List.set_cons_succ]
            refine' wpAnyH_take (i := 7) (v := ?v6) rfl (by kernel_rfl) (by kernel_rfl) (by kernel_rfl) (fun _ _ _ h => h) (Or.inl ⟨by kernel_rfl, ?hy6⟩) (by assumption) ?rest6
            case hy6 => (intro w hSw; (try dsimp only at hSw); go_simp; try with_reducible rfl)
            try simp only [Act.put, List.setIfInBounds_toArray, List.set_cons_zero, List.set_cons_succ]
            refine wpAnyH_take (i := 8) (v := .int .i64 now) rfl (by kernel_rfl) (by kernel_rfl) (by kernel_rfl) (fun _ _ _ h => h) (Or.inl ⟨by kernel_rfl, ?_⟩) hHeld ?_
            · intro w hSw
              have hh := hSw.1
              go_simp
            try simp only [Act.put, List.setIfInBounds_toArray, List.set_cons_zero, List.set_cons_succ]
            refine' wpAnyH_take (i := 9) (v := ?v7) rfl (by kernel_rfl) (by kernel_rfl) (by kernel_rfl) (fun _ _ _ h => h) (Or.inl ⟨by kernel_rfl, ?hy7⟩) (by assumption) ?rest7
            case hy7 => (intro w hSw; (try dsimp only at hSw); go_simp; try with_reducible rfl)
            try simp only [Act.put, List.setIfInBounds_toArray, List.set_cons_zero, List.set_cons_succ]
            refine wpAnyH_take (i := 10) (v := .int .i64 (now + ticks)) rfl (by kernel_rfl) (by kernel_rfl) (by kernel_rfl) (fun _ _ _ h => h) (Or.inl ⟨by kernel_rfl, ?_⟩) hHeld ?_
            · intro w hSw
              go_simp
              first | done | ((try rw [Int.tdiv_eq_ediv_of_nonneg (by omega)]); (try rw [Int.tmod_eq_emod_of_nonneg (by omega)]); (try rw [IntKind.wrap_i64]); (try omega))
            try simp only [Act.put, List.setIfInBounds_toArray, List.set_cons_zero, List.set_cons_succ]
            refine' wpAnyH_take (i := 11) (v := ?v8) rfl (by kernel_rfl) (by kernel_rfl) (by kernel_rfl) (fun _ _ _ h => h) (Or.inl ⟨by kernel_rfl, ?hy8⟩) (by assumption) ?rest8
            case hy8 => (intro w hSw; (try dsimp only at hSw); go_simp; try with_reducible rfl)
            try simp only [Act.put, List.setIfInBounds_toArray, List.set_cons_zero, List.set_cons_succ]
            refine wpAnyH_ready (rs := [3, 12]) (by kernel_rfl) (by simp) (AllReadyH.cons rfl (fun K hK => ?_) (AllReadyH.cons rfl (fun K hK => ?_) AllReadyH.nil))
            · go_simp
              go_at_call 30
              refine (HCl.out _ HBx.out).mono ?_
              rintro er wa ⟨vc, rfl, hoc, ba⟩
              have HOC := Lib.hid hoc
              go_wp2_with fail
              refine hK.out _ _ ⟨(ba.cell (p := ⟨w.heap.size, 0, none⟩) (by have := HSX.out; dsimp only; omega)).trans X0, (ba.cell (p := ⟨w.heap.size, 1, none⟩) (by have := HSX.out; dsimp only; omega)).trans X1⟩ (fun hHeld => ?_)
              clear hK K
              try simp only [Act.put, List.setIfInBounds_toArray, List.set_cons_zero, List.set_cons_succ]
              refine wpAnyH_ready (rs := [12]) (by kernel_rfl) (by simp) ?_
              refine AllReadyH.cons rfl (fun K hK => ?_) AllReadyH.nil
              go_simp
              have HOn : Hid (NewRow (wa.alloc (.cells #[.int .u64 owner.toNat, .bool false, .int .i64 (now + ticks)] 62)) wa.heap.size ⟨owner, false, now + ticks⟩) := heap_alloc_new wa _
              have HNE : Hid (vc.ownBlock ≠ some wa.heap.size) := by
                intro e
                rcases hoc.2 with ⟨hv0, _⟩ | ⟨g, cap, cur, hv0, _, hg, _⟩
                · rw [hv0] at e; cases e
                · have := (Array.getElem?_eq_some_iff.1 hg).1
                  rw [hv0] at e
                  cases e
                  exact absurd this (Nat.lt_irrefl _)
              have HOv : Hid (OwnL (wa.alloc (.cells #[.int .u64 owner.toNat, .bool false, .int .i64 (now + ticks)] 62)) wx.heap.size vc n (lkC l)) := World.ownsRow.alloc hoc _
              have HBy : Hid (Below wx.heap.size wx (wa.alloc (.cells #[.int .u64 owner.toNat, .bool false, .int .i64 (now + ticks)] 62))) := ba.alloc ba.size _
              obtain ⟨gx, hgx⟩ : ∃ gx, gx = wa.heap.size := ⟨_, rfl⟩
              obtain ⟨wy, hwy⟩ : ∃ wy, wy = wa.alloc (.cells #[.int .u64 owner.toNat, .bool false, .int .i64 (now + ticks)] 62) := ⟨_, rfl⟩
              rw [← hgx, ← hwy] at HOn
              rw [← hgx] at HNE
              rw [← hwy] at HOv HBy
              rw [← hgx, ← hwy]
              clear hgx hwy ba hoc HOC
              refine hK.out _ _ ⟨(HBy.out.cell (p := ⟨w.heap.size, 0, none⟩) (by have := HSX.out; dsimp only; omega)).trans X0, (HBy.out.cell (p := ⟨w.heap.size, 1, none⟩) (by have := HSX.out; dsimp only; omega)).trans X1⟩ (fun hHeld => ?_)
              clear hK K
              try simp only [Act.put, List.setIfInBounds_toArray, List.set_cons_zero, List.set_cons_succ]
              have HOW := Lib.hid (insertL_any wx.heap.size gx i n vc l ⟨owner, false, now + ticks⟩ wy HN.out HOv.out hin HLN.out HBy.out.size HOn.out HNE.out)
              clear HOv HOn HNE
              refine wpAnyH_ready (rs := [13]) (by kernel_rfl) (by simp) ?_
              refine AllReadyH.cons rfl (fun K hK => ?_) AllReadyH.nil
              go_simp
              go_at_call 29
              refine HOW.out.mono ?_
              rintro er wz ⟨gz, cz, rfl, hoz, hgz, bz⟩
              have HZ := Lib.hid hoz
              have HGZ : Hid (wx.heap.size ≤ gz) := hgz
              have HBz : Hid (Below wx.heap.size wx wz) := HBy.out.trans bz
              have ez0 := (HBz.out.cell (p := ⟨w.heap.size, 0, none⟩) (by have := HSX.out; dsimp only; omega)).trans X0
              have ez1 := (HBz.out.cell (p := ⟨w.heap.size, 1, none⟩) (by have := HSX.out; dsimp only; omega)).trans X1
              have ek0 := (HBz.out.cell (p := ⟨w.heap.size + 1 + 1, 0, none⟩) (by have := HSX.out; dsimp only; omega)).trans K0
              have ek1 := (HBz.out.cell (p := ⟨w.heap.size + 1 + 1, 1, none⟩) (by have := HSX.out; dsimp only; omega)).trans K1
              have fk1 := (HBz.out.frozen (p := ⟨w.heap.size + 1 + 1, 1, none⟩) (by have := HSX.out; dsimp only; omega)).trans FK
              have er0 := (HBz.out.cell (p := ⟨w.heap.size + 1, 0, none⟩) (by have := HSX.out; dsimp only; omega)).trans R0
              have er1 := (HBz.out.cell (p := ⟨w.heap.size + 1, 1, none⟩) (by have := HSX.out; dsimp only; omega)).trans R1
              have fr0 := (HBz.out.frozen (p := ⟨w.heap.size + 1, 0, none⟩) (by have := HSX.out; dsimp only; omega)).trans FR0
              have fr1 := (HBz.out.frozen (p := ⟨w.heap.size + 1, 1, none⟩) (by have := HSX.out; dsimp only; omega)).trans FR1
              have HBw : Hid (Below w.heap.size w wz) := HBx.out.trans (HBz.out.mono (by have := HSX.out; omega))
              clear hoz hgz bz HBz HBy X0 X1 K0 K1 FK R0 R1 FR0 FR1 HOW
              go_wp2_with fail
              refine hK.out _ _ ⟨ez0, ez1⟩ (fun hHeld => ?_)
              clear hK K
              try simp only [Act.put, List.setIfInBounds_toArray, List.set_cons_zero, List.set_cons_succ]
              refine' wpAnyH_take (i := 14) (v := ?v9) rfl (by kernel_rfl) (by kernel_rfl) (by kernel_rfl) (fun _ _ _ h => h) (Or.inl ⟨by kernel_rfl, ?hy9⟩) (by assumption) ?rest9
              case hy9 => (intro w hSw; (try dsimp only at hSw); go_simp; try with_reducible rfl)
              try simp only [Act.put, List.setIfInBounds_toArray, List.set_cons_zero, List.set_cons_succ]
              refine' wpAnyH_take (i := 15) (v := ?v10) rfl (by kernel_rfl) (by kernel_rfl) (by kernel_rfl) (fun _ _ _ h => h) (Or.inl ⟨by kernel_rfl, ?hy10⟩) (by assumption) ?rest10
              case hy10 => (intro w hSw; (try dsimp only at hSw); go_simp; try with_reducible rfl)
              try simp only [Act.put, List.setIfInBounds_toArray, List.set_cons_zero, List.set_cons_succ]
              refine' wpAnyH_take (i := 16) (v := ?v11) rfl (by kernel_rfl) (by kernel_rfl) (by kernel_rfl) (fun _ _ _ h => h) (Or.inl ⟨by kernel_rfl, ?hy11⟩) (by assumption) ?rest11
              case hy11 => (intro w hSw; (try dsimp only at hSw); go_simp; try with_reducible rfl)
              try simp only [Act.put, List.setIfInBounds_toArray, List.set_cons_zero, List.set_cons_succ]
              refine wpAnyH_ready (rs := [17]) (by kernel_rfl) (by simp) ?_
              refine AllReadyH.cons rfl (fun K hK => ?_) AllReadyH.nil
              go_simp
              refine hK.out _ _ ⟨(World.cell?_setCell_other _ _ _ _ (by intro e; injection e with e _; omega)).trans ez0, (World.cell?_setCell_other _ _ _ _ (by intro e; injection e with e _; omega)).trans ez1⟩ (fun hHeld => ?_)
              clear hK K
              try simp only [Act.put, List.setIfInBounds_toArray, List.set_cons_zero, List.set_cons_succ]
              refine wpAnyH_done (by kernel_rfl) ?_ _
              refine NoPanic.normal ?_
              go_wp2_with fail
              (try simp only [Exit.inBlock, Exit.then])
              refine bodyPost_cell (V := .agg #[.int .i64 now, .slice (some ⟨gz, 0, none⟩) (n + 1) cz]) rfl rfl ?_ rfl ?_
              · go_simp
              · refine ⟨_, rfl, ?_, ?_⟩
                · have h1 := HSX.out
                  have h2 := HGZ.out
                  exact (((HZ.out.set_other (by omega)).set_other (by omega)).set_other (by omega)).n
                · exact ((HBw.out.setCell (p := ⟨w.heap.size + 1 + 1, 1, none⟩) (by dsimp only; omega) _).setCell (p := ⟨w.heap.size + 1, 0, none⟩) (by dsimp only; omega) _).setCell (p := ⟨w.heap.size + 1, 1, none⟩) (by dsimp only; omega) _
            · go_simp
              have HOn0 : Hid (NewRow (wx.alloc (.cells #[.int .u64 owner.toNat, .bool false, .int .i64 (now + ticks)] 62)) wx.heap.size ⟨owner, false, now + ticks⟩) := heap_alloc_new wx _
              have HBa : Hid (Below wx.heap.size wx (wx.alloc (.cells #[.int .u64 owner.toNat, .bool false, .int .i64 (now + ticks)] 62))) := (Below.refl _ _).alloc (Nat.le_refl _) _
              have HGX : Hid (wx.heap.size < (wx.alloc (.cells #[.int .u64 owner.toNat, .bool false, .int .i64 (now + ticks)] 62)).heap.size) := by unfold Hid; simp
              obtain ⟨gx, hgx⟩ : ∃ gx, gx = wx.heap.size := ⟨_, rfl⟩
              obtain ⟨wa, hwa⟩ : ∃ wa, wa = wx.alloc (.cells #[.int .u64 owner.toNat, .bool false, .int .i64 (now + ticks)] 62) := ⟨_, rfl⟩
              rw [← hgx, ← hwa] at HOn0
              rw [← hgx, ← hwa] at HGX
              rw [← hwa] at HBa
              rw [← hgx, ← hwa]
              clear hgx hwa
              refine hK.out _ _ ⟨(HBa.out.cell (p := ⟨w.heap.size, 0, none⟩) (by have := HSX.out; dsimp only; omega)).trans X0, (HBa.out.cell (p := ⟨w.heap.size, 1, none⟩) (by have := HSX.out; dsimp only; omega)).trans X1⟩ (fun hHeld => ?_)
              clear hK K
              try simp only [Act.put, List.setIfInBounds_toArray, List.set_cons_zero, List.set_cons_succ]
              refine wpAnyH_ready (rs := [3]) (by kernel_rfl) (by simp) ?_
              refine AllReadyH.cons rfl (fun K hK => ?_) AllReadyH.nil
              go_simp
              go_at_call 30
              refine (HCl.out _ (HBx.out.trans (HBa.out.mono HBx.out.size))).mono ?_
              rintro er wy ⟨vc, rfl, hoc, ba⟩
              have HOv : Hid (OwnL wy wx.heap.size vc n (lkC l)) := OwnL.mono hoc HBa.out.size
              have HNE : Hid (vc.ownBlock ≠ some gx) := by
                intro e
                have := HGX.out
                rcases hoc.2 with ⟨hv0, _⟩ | ⟨g, cap, cur, hv0, hb, hg, _⟩
                · rw [hv0] at e; cases e
                · rw [hv0] at e
                  cases e
                  exact absurd this (Nat.not_lt.2 hb)
              have HOn : Hid (NewRow wy gx ⟨owner, false, now + ticks⟩) := (ba.block gx HGX.out).trans HOn0.out
              have HBy : Hid (Below wx.heap.size wx wy) := HBa.out.trans (ba.mono HBa.out.size)
              clear ba hoc HOn0 HBa HGX
              go_wp2_with fail
              refine hK.out _ _ ⟨(HBy.out.cell (p := ⟨w.heap.size, 0, none⟩) (by have := HSX.out; dsimp only; omega)).trans X0, (HBy.out.cell (p := ⟨w.heap.size, 1, none⟩) (by have := HSX.out; dsimp only; omega)).trans X1⟩ (fun hHeld => ?_)
              clear hK K
              try simp only [Act.put, List.setIfInBounds_toArray, List.set_cons_zero, List.set_cons_succ]
              have HOW := Lib.hid (insertL_any wx.heap.size gx i n vc l ⟨owner, false, now + ticks⟩ wy HN.out HOv.out hin HLN.out HBy.out.size HOn.out HNE.out)
              clear HOv HOn HNE
              refine wpAnyH_ready (rs := [13]) (by kernel_rfl) (by simp) ?_
              refine AllReadyH.cons rfl (fun K hK => ?_) AllReadyH.nil
              go_simp
              go_at_call 29
              refine HOW.out.mono ?_
              rintro er wz ⟨gz, cz, rfl, hoz, hgz, bz⟩
              have HZ := Lib.hid hoz
              have HGZ : Hid (wx.heap.size ≤ gz) := hgz
              have HBz : Hid (Below wx.heap.size wx wz) := HBy.out.trans bz
              have ez0 := (HBz.out.cell (p := ⟨w.heap.size, 0, none⟩) (by have := HSX.out; dsimp only; omega)).trans X0
              have ez1 := (HBz.out.cell (p := ⟨w.heap.size, 1, none⟩) (by have := HSX.out; dsimp only; omega)).trans X1
              have ek0 := (HBz.out.cell (p := ⟨w.heap.size + 1 + 1, 0, none⟩) (by have := HSX.out; dsimp only; omega)).trans K0
              have ek1 := (HBz.out.cell (p := ⟨w.heap.size + 1 + 1, 1, none⟩) (by have := HSX.out; dsimp only; omega)).trans K1
              have fk1 := (HBz.out.frozen (p := ⟨w.heap.size + 1 + 1, 1, none⟩) (by have := HSX.out; dsimp only; omega)).trans FK
              have er0 := (HBz.out.cell (p := ⟨w.heap.size + 1, 0, none⟩) (by have := HSX.out; dsimp only; omega)).trans R0
              have er1 := (HBz.out.cell (p := ⟨w.heap.size + 1, 1, none⟩) (by have := HSX.out; dsimp only; omega)).trans R1
              have fr0 := (HBz.out.frozen (p := ⟨w.heap.size + 1, 0, none⟩) (by have := HSX.out; dsimp only; omega)).trans FR0
              have fr1 := (HBz.out.frozen (p := ⟨w.heap.size + 1, 1, none⟩) (by have := HSX.out; dsimp only; omega)).trans FR1
              have HBw : Hid (Below w.heap.size w wz) := HBx.out.trans (HBz.out.mono (by have := HSX.out; omega))
              clear hoz hgz bz HBz HBy X0 X1 K0 K1 FK R0 R1 FR0 FR1 HOW
              go_wp2_with fail
              refine hK.out _ _ ⟨ez0, ez1⟩ (fun hHeld => ?_)
              clear hK K
              try simp only [Act.put, List.setIfInBounds_toArray, List.set_cons_zero, List.set_cons_succ]
              refine' wpAnyH_take (i := 14) (v := ?v12) rfl (by kernel_rfl) (by kernel_rfl) (by kernel_rfl) (fun _ _ _ h => h) (Or.inl ⟨by kernel_rfl, ?hy12⟩) (by assumption) ?rest12
              case hy12 => (intro w hSw; (try dsimp only at hSw); go_simp; try with_reducible rfl)
              try simp only [Act.put, List.setIfInBounds_toArray, List.set_cons_zero, List.set_cons_succ]
              refine' wpAnyH_take (i := 15) (v := ?v13) rfl (by kernel_rfl) (by kernel_rfl) (by kernel_rfl) (fun _ _ _ h => h) (Or.inl ⟨by kernel_rfl, ?hy13⟩) (by assumption) ?rest13
              case hy13 => (intro w hSw; (try dsimp only at hSw); go_simp; try with_reducible rfl)
              try simp only [Act.put, List.setIfInBounds_toArray, List.set_cons_zero, List.set_cons_succ]
              refine' wpAnyH_take (i := 16) (v := ?v14) rfl (by kernel_rfl) (by kernel_rfl) (by kernel_rfl) (fun _ _ _ h => h) (Or.inl ⟨by kernel_rfl, ?hy14⟩) (by assumption) ?rest14
              case hy14 => (intro w hSw; (try dsimp only at hSw); go_simp; try with_reducible rfl)
              try simp only [Act.put, List.setIfInBounds_toArray, List.set_cons_zero, List.set_cons_succ]
              refine wpAnyH_ready (rs := [17]) (by kernel_rfl) (by simp) ?_
              refine AllReadyH.cons rfl (fun K hK => ?_) AllReadyH.nil
              go_simp
              refine hK.out _ _ ⟨(World.cell?_setCell_other _ _ _ _ (by intro e; injection e with e _; omega)).trans ez0, (World.cell?_setCell_other _ _ _ _ (by intro e; injection e with e _; omega)).trans ez1⟩ (fun hHeld => ?_)
              clear hK K
              try simp only [Act.put, List.setIfInBounds_toArray, List.set_cons_zero, List.set_cons_succ]
              refine wpAnyH_done (by kernel_rfl) ?_ _
              refine NoPanic.normal ?_
              go_wp2_with fail
              (try simp only [Exit.inBlock, Exit.then])
              refine bodyPost_cell (V := .agg #[.int .i64 now, .slice (some ⟨gz, 0, none⟩) (n + 1) cz]) rfl rfl ?_ rfl ?_
              · go_simp
              · refine ⟨_, rfl, ?_, ?_⟩
                · have h1 := HSX.out
                  have h2 := HGZ.out
                  exact (((HZ.out.set_other (by omega)).set_other (by omega)).set_other (by omega)).n
                · exact ((HBw.out.setCell (p := ⟨w.heap.size + 1 + 1, 1, none⟩) (by dsimp only; omega) _).setCell (p := ⟨w.heap.size + 1, 0, none⟩) (by dsimp only; omega) _).setCell (p := ⟨w.heap.size + 1, 1, none⟩) (by dsimp only; omega) _
        | true =>
          by_cases hn0 : 16 ≤ n
          · have d3 : decide ((16 : Int) ≤ (n : Int)) = true := by simp; omega
            have d4 : decide (16 ≤ n) = true := by simp; omega
            rw [if_neg (by rintro (h | h); cases h; cases h.1), if_pos hn0]
            clear HCl hn0
            go_enter Try.func7, Try.ntmps7
            go_wp2_with fail
            refine Calls.mono (HAT.out _ _ HB3.out H3.out.2.2.2.2.1) ?_
            rintro e w1 ⟨rfl, b1⟩
            have HB1 : Hid (Below w.heap.size w w1) := HB3.out.trans (b1.mono HB3.out.size)
            have HBE : Hid (Below (((w.alloc (.cells #[.int .i64 now, .slice A n c] 27)).alloc (.cells #[.int .i64 0, .slice none 0 0] 27)).alloc (.cells #[.int .i64 now, .slice A n c] 57)).heap.size (((w.alloc (.cells #[.int .i64 now, .slice A n c] 27)).alloc (.cells #[.int .i64 0, .slice none 0 0] 27)).alloc (.cells #[.int .i64 now, .slice A n c] 57)) w1) := b1
            have X1 := (b1.cell (p := ⟨w.heap.size, 1, none⟩) (by simp; omega)).trans H3.out.2.1
            clear b1
            go_wp2_with fail
            refine (HCn.out _ HB1.out).mono ?_
            rintro e w2 ⟨rfl, b2⟩
            have HB2 : Hid (Below w.heap.size w w2) := HB1.out.trans (b2.mono HB1.out.size)
            have HBE2 : Hid (Below (((w.alloc (.cells #[.int .i64 now, .slice A n c] 27)).alloc (.cells #[.int .i64 0, .slice none 0 0] 27)).alloc (.cells #[.int .i64 now, .slice A n c] 57)).heap.size (((w.alloc (.cells #[.int .i64 now, .slice A n c] 27)).alloc (.cells #[.int .i64 0, .slice none 0 0] 27)).alloc (.cells #[.int .i64 now, .slice A n c] 57)) w2) := HBE.out.trans (b2.mono HBE.out.size)
            clear b2 X1 HB1 HBE
            go_wp2_with fail
            refine (HT.out _).mono ?_
            rintro e w' ⟨rfl, rfl⟩
            have HSX2 : Hid (w.heap.size + 3 ≤ w2.heap.size) := by unfold Hid; have := HBE2.out.size; simp at this; omega
            have X0 := (HBE2.out.cell (p := ⟨w.heap.size, 0, none⟩) (by simp; omega)).trans H3.out.1
            have X1 := (HBE2.out.cell (p := ⟨w.heap.size, 1, none⟩) (by simp; omega)).trans H3.out.2.1
            have R0 := (HBE2.out.cell (p := ⟨w.heap.size + 1, 0, none⟩) (by simp)).trans H3.out.2.2.1
            have R1 := (HBE2.out.cell (p := ⟨w.heap.size + 1, 1, none⟩) (by simp)).trans H3.out.2.2.2.1
            have FR0 := (HBE2.out.frozen (p := ⟨w.heap.size + 1, 0, none⟩) (by simp)).trans (H3.out.2.2.2.2.2.2.1 0)
            have FR1 := (HBE2.out.frozen (p := ⟨w.heap.size + 1, 1, none⟩) (by simp)).trans (H3.out.2.2.2.2.2.2.1 1)
            have K0 := (HBE2.out.cell (p := ⟨w.heap.size + 1 + 1, 0, none⟩) (by simp)).trans H3.out.2.2.2.2.2.1
            have K1 := (HBE2.out.cell (p := ⟨w.heap.size + 1 + 1, 1, none⟩) (by simp)).trans H3.out.2.2.2.2.1
            have FK := (HBE2.out.frozen (p := ⟨w.heap.size + 1 + 1, 1, none⟩) (by simp)).trans (H3.out.2.2.2.2.2.2.2 1)
            clear HBE2 H3 HAT HCn HT HB3
            have HEND : Hid (Below w.heap.size w ((w2.setCell ⟨w.heap.size + 1, 0, none⟩ (.int .i64 now)).setCell ⟨w.heap.size + 1, 1, none⟩ (.slice A n c))) := (HB2.out.setCell (p := ⟨w.heap.size + 1, 0, none⟩) (by dsimp only; omega) _).setCell (p := ⟨w.heap.size + 1, 1, none⟩) (by dsimp only; omega) _
            clear K0 K1 FK
            go_wp2_with fail
            (try simp only [Exit.inBlock, Exit.then])
            refine bodyPost_cell (V := .agg #[.int .i64 now, .slice A n c]) rfl rfl ?_ rfl ?_
            · go_simp
            · exact ⟨_, rfl, HV.out.below HEND.out (Nat.le_refl _), HEND.out⟩
          · have d3 : decide ((16 : Int) ≤ (n : Int)) = false := by simp; omega
            have d4 : decide (16 ≤ n) = false := by simp; omega
            rw [if_neg (by rintro (h | h); cases h; cases h.1), if_neg hn0]
            clear hn0
            go_enter Try.func7, Try.ntmps7
            go_wp2_with fail
            refine Calls.mono (HAT.out _ _ HB3.out H3.out.2.2.2.2.1) ?_
            rintro e w1 ⟨rfl, b1⟩
            have HB1 : Hid (Below w.heap.size w w1) := HB3.out.trans (b1.mono HB3.out.size)
            have HBE : Hid (Below (((w.alloc (.cells #[.int .i64 now, .slice A n c] 27)).alloc (.cells #[.int .i64 0, .slice none 0 0] 27)).alloc (.cells #[.int .i64 now, .slice A n c] 57)).heap.size (((w.alloc (.cells #[.int .i64 now, .slice A n c] 27)).alloc (.cells #[.int .i64 0, .slice none 0 0] 27)).alloc (.cells #[.int .i64 now, .slice A n c] 57)) w1) := b1
            have X1 := (b1.cell (p := ⟨w.heap.size, 1, none⟩) (by simp; omega)).trans H3.out.2.1
            clear b1
            go_wp2_with fail
            refine (HCn.out _ HB1.out).mono ?_
            rintro e w2 ⟨rfl, b2⟩
            have HB2 : Hid (Below w.heap.size w w2) := HB1.out.trans (b2.mono HB1.out.size)
            have HBE2 : Hid (Below (((w.alloc (.cells #[.int .i64 now, .slice A n c] 27)).alloc (.cells #[.int .i64 0, .slice none 0 0] 27)).alloc (.cells #[.int .i64 now, .slice A n c] 57)).heap.size (((w.alloc (.cells #[.int .i64 now, .slice A n c] 27)).alloc (.cells #[.int .i64 0, .slice none 0 0] 27)).alloc (.cells #[.int .i64 now, .slice A n c] 57)) w2) := HBE.out.trans (b2.mono HBE.out.size)
            clear b2 X1 HB1 HBE
            go_wp2_with fail
            refine (HT.out _).mono ?_
            rintro e w' ⟨rfl, rfl⟩
            have HSX2 : Hid (w.heap.size + 3 ≤ w2.heap.size) := by unfold Hid; have := HBE2.out.size; simp at this; omega
            have X0 := (HBE2.out.cell (p := ⟨w.heap.size, 0, none⟩) (by simp; omega)).trans H3.out.1
            have X1 := (HBE2.out.cell (p := ⟨w.heap.size, 1, none⟩) (by simp; omega)).trans H3.out.2.1
            have R0 := (HBE2.out.cell (p := ⟨w.heap.size + 1, 0, none⟩) (by simp)).trans H3.out.2.2.1
            have R1 := (HBE2.out.cell (p := ⟨w.heap.size + 1, 1, none⟩) (by simp)).trans H3.out.2.2.2.1
            have FR0 := (HBE2.out.frozen (p := ⟨w.heap.size + 1, 0, none⟩) (by simp)).trans (H3.out.2.2.2.2.2.2.1 0)
            have FR1 := (HBE2.out.frozen (p := ⟨w.heap.size + 1, 1, none⟩) (by simp)).trans (H3.out.2.2.2.2.2.2.1 1)
            have K0 := (HBE2.out.cell (p := ⟨w.heap.size + 1 + 1, 0, none⟩) (by simp)).trans H3.out.2.2.2.2.2.1
            have K1 := (HBE2.out.cell (p := ⟨w.heap.size + 1 + 1, 1, none⟩) (by simp)).trans H3.out.2.2.2.2.1
            have FK := (HBE2.out.frozen (p := ⟨w.heap.size + 1 + 1, 1, none⟩) (by simp)).trans (H3.out.2.2.2.2.2.2.2 1)
            clear HBE2 H3 HAT HCn HT HB3
            go_wp2_with fail
            refine wp_region_noPanic ?_
            refine wp_region_held_drew (S := fun w' => w'.cell? ⟨w.heap.size, 0, none⟩ = some (.int .i64 now) ∧ w'.cell? ⟨w.heap.size, 1, none⟩ = some (.slice A n c)) (by kernel_rfl) ⟨X0, X1⟩ (fun hHeld => ?_)
            obtain ⟨wx, hwx⟩ : ∃ wx, wx = w2.drew := ⟨_, rfl⟩
            have HSX : Hid (w.heap.size + 3 ≤ wx.heap.size) := by unfold Hid; rw [hwx]; exact HSX2.out
            have X0 : wx.cell? ⟨w.heap.size, 0, none⟩ = some (.int .i64 now) := by rw [hwx]; exact X0
            have X1 : wx.cell? ⟨w.heap.size, 1, none⟩ = some (.slice A n c) := by rw [hwx]; exact X1
            have R0 : wx.cell? ⟨w.heap.size + 1, 0, none⟩ = some (.int .i64 0) := by rw [hwx]; exact R0
            have R1 : wx.cell? ⟨w.heap.size + 1, 1, none⟩ = some (.slice none 0 0) := by rw [hwx]; exact R1
            have K0 : wx.cell? ⟨w.heap.size + 1 + 1, 0, none⟩ = some (.int .i64 now) := by rw [hwx]; exact K0
            have K1 : wx.cell? ⟨w.heap.size + 1 + 1, 1, none⟩ = some (.slice A n c) := by rw [hwx]; exact K1
            have FK : wx.frozen? ⟨w.heap.size + 1 + 1, 1, none⟩ = false := by rw [hwx]; exact FK
            have FR0 : wx.frozen? ⟨w.heap.size + 1, 0, none⟩ = false := by rw [hwx]; exact FR0
            have FR1 : wx.frozen? ⟨w.heap.size + 1, 1, none⟩ = false := by rw [hwx]; exact FR1
            have HBx : Hid (Below w.heap.size w wx) := by unfold Hid; rw [hwx]; exact HB2.out.drew
            rw [← hwx] at hHeld ⊢
            clear hwx HB2 HSX2
            refine' wpAnyH_take (i := 0) (v := ?v15) rfl (by kernel_rfl) (by kernel_rfl) (by kernel_rfl) (fun _ _ _ h => h) (Or.inl ⟨by kernel_rfl, ?hy15⟩) (by assumption) ?rest15
            case hy15 => (intro w hSw; (try dsimp only at hSw); go_simp; try with_reducible rfl)
            try simp only [Act.put, List.setIfInBounds_toArray, List.set_cons_zero, List.set_cons_succ]
            refine' wpAnyH_take (i := 1) (v := ?v16) rfl (by kernel_rfl) (by kernel_rfl) (by kernel_rfl) (fun _ _ _ h => h) (Or.inl ⟨by kernel_rfl, ?hy16⟩) (by assumption) ?rest16
            case hy16 => (intro w hSw; (try dsimp only at hSw); go_simp; try with_reducible rfl)
            try simp only [Act.put, List.setIfInBounds_toArray, List.set_cons_zero, List.set_cons_succ]
            refine wpAnyH_take (i := 2) (v := .slice A n c) rfl (by kernel_rfl) (by kernel_rfl) (by kernel_rfl) (fun _ _ _ h => h) (Or.inl ⟨by kernel_rfl, ?_⟩) hHeld ?_
            · intro w hSw
              have hh := hSw.2
              go_simp
            try simp only [Act.put, List.setIfInBounds_toArray, List.set_cons_zero, List.set_cons_succ]
            refine' wpAnyH_take (i := 4) (v := ?v17) rfl (by kernel_rfl) (by kernel_rfl) (by kernel_rfl) (fun _ _ _ h => h) (Or.inl ⟨by kernel_rfl, ?hy17⟩) (by assumption) ?rest17
            case hy17 => (intro w hSw; (try dsimp only at hSw); go_simp; try with_reducible rfl)
            try simp only [Act.put, List.setIfInBounds_toArray, List.set_cons_zero, List.set_cons_succ]
            refine' wpAnyH_take (i := 5) (v := ?v18) rfl (by kernel_rfl) (by kernel_rfl) (by kernel_rfl) (fun _ _ _ h => h) (Or.inl ⟨by kernel_rfl, ?hy18⟩) (by assumption) ?rest18
            case hy18 => (intro w hSw; (try dsimp only at hSw); go_simp; try with_reducible rfl)
            try simp only [Act.put, List.setIfInBounds_toArray, List.set_cons_zero, List.set_cons_succ]
            refine' wpAnyH_take (i := 6) (v := ?v19) rfl (by kernel_rfl) (by kernel_rfl) (by kernel_rfl) (fun _ _ _ h => h) (Or.inl ⟨by kernel_rfl, ?hy19⟩) (by assumption) ?rest19
            case hy19 => (intro w hSw; (try dsimp only at hSw); go_simp; try with_reducible rfl)
            try simp only [Act.put, List.setIfInBounds_toArray, List.set_cons_zero, List.set_cons_succ]
            refine' wpAnyH_take (i := 7) (v := ?v20) rfl (by kernel_rfl) (by kernel_rfl) (by kernel_rfl) (fun _ _ _ h => h) (Or.inl ⟨by kernel_rfl, ?hy20⟩) (by assumption) ?rest20
            case hy20 => (intro w hSw; (try dsimp only at hSw); go_simp; try with_reducible rfl)
            try simp only [Act.put, List.setIfInBounds_toArray, List.set_cons_zero, List.set_cons_succ]
            refine wpAnyH_take (i := 8) (v := .int .i64 now) rfl (by kernel_rfl) (by kernel_rfl) (by kernel_rfl) (fun _ _ _ h => h) (Or.inl ⟨by kernel_rfl, ?_⟩) hHeld ?_
            · intro w hSw
              have hh := hSw.1
              go_simp
            try simp only [Act.put, List.setIfInBounds_toArray, List.set_cons_zero, List.set_cons_succ]
            refine' wpAnyH_take (i := 9) (v := ?v21) rfl (by kernel_rfl) (by kernel_rfl) (by kernel_rfl) (fun _ _ _ h => h) (Or.inl ⟨by kernel_rfl, ?hy21⟩) (by assumption) ?rest21
            case hy21 => (intro w hSw; (try dsimp only at hSw); go_simp; try with_reducible rfl)
            try simp only [Act.put, List.setIfInBounds_toArray, List.set_cons_zero, List.set_cons_succ]
            refine wpAnyH_take (i := 10) (v := .int .i64 (now + ticks)) rfl (by kernel_rfl) (by kernel_rfl) (by kernel_rfl) (fun _ _ _ h => h) (Or.inl ⟨by kernel_rfl, ?_⟩) hHeld ?_
            · intro w hSw
              go_simp
              first | done | ((try rw [Int.tdiv_eq_ediv_of_nonneg (by omega)]); (try rw [Int.tmod_eq_emod_of_nonneg (by omega)]); (try rw [IntKind.wrap_i64]); (try omega))
            try simp only [Act.put, List.setIfInBounds_toArray, List.set_cons_zero, List.set_cons_succ]
            refine' wpAnyH_take (i := 11) (v := ?v22) rfl (by kernel_rfl) (by kernel_rfl) (by kernel_rfl) (fun _ _ _ h => h) (Or.inl ⟨by kernel_rfl, ?hy22⟩) (by assumption) ?rest22
            case hy22 => (intro w hSw; (try dsimp only at hSw); go_simp; try with_reducible rfl)
            try simp only [Act.put, List.setIfInBounds_toArray, List.set_cons_zero, List.set_cons_succ]
            refine wpAnyH_ready (rs := [3, 12]) (by kernel_rfl) (by simp) (AllReadyH.cons rfl (fun K hK => ?_) (AllReadyH.cons rfl (fun K hK => ?_) AllReadyH.nil))
            · go_simp
              go_at_call 30
              refine (HCl.out _ HBx.out).mono ?_
              rintro er wa ⟨vc, rfl, hoc, ba⟩
              have HOC := Lib.hid hoc
              go_wp2_with fail
              refine hK.out _ _ ⟨(ba.cell (p := ⟨w.heap.size, 0, none⟩) (by have := HSX.out; dsimp only; omega)).trans X0, (ba.cell (p := ⟨w.heap.size, 1, none⟩) (by have := HSX.out; dsimp only; omega)).trans X1⟩ (fun hHeld => ?_)
              clear hK K
              try simp only [Act.put, List.setIfInBounds_toArray, List.set_cons_zero, List.set_cons_succ]
              refine wpAnyH_ready (rs := [12]) (by kernel_rfl) (by simp) ?_
              refine AllReadyH.cons rfl (fun K hK => ?_) AllReadyH.nil
              go_simp
              have HOn : Hid (NewRow (wa.alloc (.cells #[.int .u64 owner.toNat, .bool true, .int .i64 (now + ticks)] 62)) wa.heap.size ⟨owner, true, now + ticks⟩) := heap_alloc_new wa _
              have HNE : Hid (vc.ownBlock ≠ some wa.heap.size) := by
                intro e
                rcases hoc.2 with ⟨hv0, _⟩ | ⟨g, cap, cur, hv0, _, hg, _⟩
                · rw [hv0] at e; cases e
                · have := (Array.getElem?_eq_some_iff.1 hg).1
                  rw [hv0] at e
                  cases e
                  exact absurd this (Nat.lt_irrefl _)
              have HOv : Hid (OwnL (wa.alloc (.cells #[.int .u64 owner.toNat, .bool true, .int .i64 (now + ticks)] 62)) wx.heap.size vc n (lkC l)) := World.ownsRow.alloc hoc _
              have HBy : Hid (Below wx.heap.size wx (wa.alloc (.cells #[.int .u64 owner.toNat, .bool true, .int .i64 (now + ticks)] 62))) := ba.alloc ba.size _
              obtain ⟨gx, hgx⟩ : ∃ gx, gx = wa.heap.size := ⟨_, rfl⟩
              obtain ⟨wy, hwy⟩ : ∃ wy, wy = wa.alloc (.cells #[.int .u64 owner.toNat, .bool true, .int .i64 (now + ticks)] 62) := ⟨_, rfl⟩
              rw [← hgx, ← hwy] at HOn
              rw [← hgx] at HNE
              rw [← hwy] at HOv HBy
              rw [← hgx, ← hwy]
              clear hgx hwy ba hoc HOC
              refine hK.out _ _ ⟨(HBy.out.cell (p := ⟨w.heap.size, 0, none⟩) (by have := HSX.out; dsimp only; omega)).trans X0, (HBy.out.cell (p := ⟨w.heap.size, 1, none⟩) (by have := HSX.out; dsimp only; omega)).trans X1⟩ (fun hHeld => ?_)
              clear hK K
              try simp only [Act.put, List.setIfInBounds_toArray, List.set_cons_zero, List.set_cons_succ]
              have HOW := Lib.hid (insertL_any wx.heap.size gx i n vc l ⟨owner, true, now + ticks⟩ wy HN.out HOv.out hin HLN.out HBy.out.size HOn.out HNE.out)
              clear HOv HOn HNE
              refine wpAnyH_ready (rs := [13]) (by kernel_rfl) (by simp) ?_
              refine AllReadyH.cons rfl (fun K hK => ?_) AllReadyH.nil
              go_simp
              go_at_call 29
              refine HOW.out.mono ?_
              rintro er wz ⟨gz, cz, rfl, hoz, hgz, bz⟩
              have HZ := Lib.hid hoz
              have HGZ : Hid (wx.heap.size ≤ gz) := hgz
              have HBz : Hid (Below wx.heap.size wx wz) := HBy.out.trans bz
              have ez0 := (HBz.out.cell (p := ⟨w.heap.size, 0, none⟩) (by have := HSX.out; dsimp only; omega)).trans X0
              have ez1 := (HBz.out.cell (p := ⟨w.heap.size, 1, none⟩) (by have := HSX.out; dsimp only; omega)).trans X1
              have ek0 := (HBz.out.cell (p := ⟨w.heap.size + 1 + 1, 0, none⟩) (by have := HSX.out; dsimp only; omega)).trans K0
              have ek1 := (HBz.out.cell (p := ⟨w.heap.size + 1 + 1, 1, none⟩) (by have := HSX.out; dsimp only; omega)).trans K1
              have fk1 := (HBz.out.frozen (p := ⟨w.heap.size + 1 + 1, 1, none⟩) (by have := HSX.out; dsimp only; omega)).trans FK
              have er0 := (HBz.out.cell (p := ⟨w.heap.size + 1, 0, none⟩) (by have := HSX.out; dsimp only; omega)).trans R0
              have er1 := (HBz.out.cell (p := ⟨w.heap.size + 1, 1, none⟩) (by have := HSX.out; dsimp only; omega)).trans R1
              have fr0 := (HBz.out.frozen (p := ⟨w.heap.size + 1, 0, none⟩) (by have := HSX.out; dsimp only; omega)).trans FR0
              have fr1 := (HBz.out.frozen (p := ⟨w.heap.size + 1, 1, none⟩) (by have := HSX.out; dsimp only; omega)).trans FR1
              have HBw : Hid (Below w.heap.size w wz) := HBx.out.trans (HBz.out.mono (by have := HSX.out; omega))
              clear hoz hgz bz HBz HBy X0 X1 K0 K1 FK R0 R1 FR0 FR1 HOW
              go_wp2_with fail
              refine hK.out _ _ ⟨ez0, ez1⟩ (fun hHeld => ?_)
              clear hK K
              try simp only [Act.put, List.setIfInBounds_toArray, List.set_cons_zero, List.set_cons_succ]
              refine' wpAnyH_take (i := 14) (v := ?v23) rfl (by kernel_rfl) (by kernel_rfl) (by kernel_rfl) (fun _ _ _ h => h) (Or.inl ⟨by kernel_rfl, ?hy23⟩) (by assumption) ?rest23
              case hy23 => (intro w hSw; (try dsimp only at hSw); go_simp; try with_reducible rfl)
              try simp only [Act.put, List.setIfInBounds_toArray, List.set_cons_zero, List.set_cons_succ]
              refine' wpAnyH_take (i := 15) (v := ?v24) rfl (by kernel_rfl) (by kernel_rfl) (by kernel_rfl) (fun _ _ _ h => h) (Or.inl ⟨by kernel_rfl, ?hy24⟩) (by assumption) ?rest24
              case hy24 => (intro w hSw; (try dsimp only at hSw); go_simp; try with_reducible rfl)
              try simp only [Act.put, List.setIfInBounds_toArray, List.set_cons_zero, List.set_cons_succ]
              refine' wpAnyH_take (i := 16) (v := ?v25) rfl (by kernel_rfl) (by kernel_rfl) (by kernel_rfl) (fun _ _ _ h => h) (Or.inl ⟨by kernel_rfl, ?hy25⟩) (by assumption) ?rest25
              case hy25 => (intro w hSw; (try dsimp only at hSw); go_simp; try with_reducible rfl)
              try simp only [Act.put, List.setIfInBounds_toArray, List.set_cons_zero, List.set_cons_succ]
              refine wpAnyH_ready (rs := [17]) (by kernel_rfl) (by simp) ?_
              refine AllReadyH.cons rfl (fun K hK => ?_) AllReadyH.nil
              go_simp
              refine hK.out _ _ ⟨(World.cell?_setCell_other _ _ _ _ (by intro e; injection e with e _; omega)).trans ez0, (World.cell?_setCell_other _ _ _ _ (by intro e; injection e with e _; omega)).trans ez1⟩ (fun hHeld => ?_)
              clear hK K
              try simp only [Act.put, List.setIfInBounds_toArray, List.set_cons_zero, List.set_cons_succ]
              refine wpAnyH_done (by kernel_rfl) ?_ _
              refine NoPanic.normal ?_
              go_wp2_with fail
              (try simp only [Exit.inBlock, Exit.then])
              refine bodyPost_cell (V := .agg #[.int .i64 now, .slice (some ⟨gz, 0, none⟩) (n + 1) cz]) rfl rfl ?_ rfl ?_
              · go_simp
              · refine ⟨_, rfl, ?_, ?_⟩
                · have h1 := HSX.out
                  have h2 := HGZ.out
                  exact (((HZ.out.set_other (by omega)).set_other (by omega)).set_other (by omega)).n
                · exact ((HBw.out.setCell (p := ⟨w.heap.size + 1 + 1, 1, none⟩) (by dsimp only; omega) _).setCell (p := ⟨w.heap.size + 1, 0, none⟩) (by dsimp only; omega) _).setCell (p := ⟨w.heap.size + 1, 1, none⟩) (by dsimp only; omega) _
            · go_simp
              have HOn0 : Hid (NewRow (wx.alloc (.cells #[.int .u64 owner.toNat, .bool true, .int .i64 (now + ticks)] 62)) wx.heap.size ⟨owner, true, now + ticks⟩) := heap_alloc_new wx _
              have HBa : Hid (Below wx.heap.size wx (wx.alloc (.cells #[.int .u64 owner.toNat, .bool true, .int .i64 (now + ticks)] 62))) := (Below.refl _ _).alloc (Nat.le_refl _) _
              have HGX : Hid (wx.heap.size < (wx.alloc (.cells #[.int .u64 owner.toNat, .bool true, .int .i64 (now + ticks)] 62)).heap.size) := by unfold Hid; simp
              obtain ⟨gx, hgx⟩ : ∃ gx, gx = wx.heap.size := ⟨_, rfl⟩
              obtain ⟨wa, hwa⟩ : ∃ wa, wa = wx.alloc (.cells #[.int .u64 owner.toNat, .bool true, .int .i64 (now + ticks)] 62) := ⟨_, rfl⟩
              rw [← hgx, ← hwa] at HOn0
              rw [← hgx, ← hwa] at HGX
              rw [← hwa] at HBa
              rw [← hgx, ← hwa]
              clear hgx hwa
              refine hK.out _ _ ⟨(HBa.out.cell (p := ⟨w.heap.size, 0, none⟩) (by have := HSX.out; dsimp only; omega)).trans X0, (HBa.out.cell (p := ⟨w.heap.size, 1, none⟩) (by have := HSX.out; dsimp only; omega)).trans X1⟩ (fun hHeld => ?_)
              clear hK K
              try simp only [Act.put, List.setIfInBounds_toArray, List.set_cons_zero, List.set_cons_succ]
              refine wpAnyH_ready (rs := [3]) (by kernel_rfl) (by simp) ?_
              refine AllReadyH.cons rfl (fun K hK => ?_) AllReadyH.nil
              go_simp
              go_at_call 30
              refine (HCl.out _ (HBx.out.trans (HBa.out.mono HBx.out.size))).mono ?_
              rintro er wy ⟨vc, rfl, hoc, ba⟩
              have HOv : Hid (OwnL wy wx.heap.size vc n (lkC l)) := OwnL.mono hoc HBa.out.size
              have HNE : Hid (vc.ownBlock ≠ some gx) := by
                intro e
                have := HGX.out
                rcases hoc.2 with ⟨hv0, _⟩ | ⟨g, cap, cur, hv0, hb, hg, _⟩
                · rw [hv0] at e; cases e
                · rw [hv0] at e
                  cases e
                  exact absurd this (Nat.not_lt.2 hb)
              have HOn : Hid (NewRow wy gx ⟨owner, true, now + ticks⟩) := (ba.block gx HGX.out).trans HOn0.out
              have HBy : Hid (Below wx.heap.size wx wy) := HBa.out.trans (ba.mono HBa.out.size)
              clear ba hoc HOn0 HBa HGX
              go_wp2_with fail
              refine hK.out _ _ ⟨(HBy.out.cell (p := ⟨w.heap.size, 0, none⟩) (by have := HSX.out; dsimp only; omega)).trans X0, (HBy.out.cell (p := ⟨w.heap.size, 1, none⟩) (by have := HSX.out; dsimp only; omega)).trans X1⟩ (fun hHeld => ?_)
              clear hK K
              try simp only [Act.put, List.setIfInBounds_toArray, List.set_cons_zero, List.set_cons_succ]
              have HOW := Lib.hid (insertL_any wx.heap.size gx i n vc l ⟨owner, true, now + ticks⟩ wy HN.out HOv.out hin HLN.out HBy.out.size HOn.out HNE.out)
              clear HOv HOn HNE
              refine wpAnyH_ready (rs := [13]) (by kernel_rfl) (by simp) ?_
              refine AllReadyH.cons rfl (fun K hK => ?_) AllReadyH.nil
              go_simp
              go_at_call 29
              refine HOW.out.mono ?_
              rintro er wz ⟨gz, cz, rfl, hoz, hgz, bz⟩
              have HZ := Lib.hid hoz
              have HGZ : Hid (wx.heap.size ≤ gz) := hgz
              have HBz : Hid (Below wx.heap.size wx wz) := HBy.out.trans bz
              have ez0 := (HBz.out.cell (p := ⟨w.heap.size, 0, none⟩) (by have := HSX.out; dsimp only; omega)).trans X0
              have ez1 := (HBz.out.cell (p := ⟨w.heap.size, 1, none⟩) (by have := HSX.out; dsimp only; omega)).trans X1
              have ek0 := (HBz.out.cell (p := ⟨w.heap.size + 1 + 1, 0, none⟩) (by have := HSX.out; dsimp only; omega)).trans K0
              have ek1 := (HBz.out.cell (p := ⟨w.heap.size + 1 + 1, 1, none⟩) (by have := HSX.out; dsimp only; omega)).trans K1
              have fk1 := (HBz.out.frozen (p := ⟨w.heap.size + 1 + 1, 1, none⟩) (by have := HSX.out; dsimp only; omega)).trans FK
              have er0 := (HBz.out.cell (p := ⟨w.heap.size + 1, 0, none⟩) (by have := HSX.out; dsimp only; omega)).trans R0
              have er1 := (HBz.out.cell (p := ⟨w.heap.size + 1, 1, none⟩) (by have := HSX.out; dsimp only; omega)).trans R1
              have fr0 := (HBz.out.frozen (p := ⟨w.heap.size + 1, 0, none⟩) (by have := HSX.out; dsimp only; omega)).trans FR0
              have fr1 := (HBz.out.frozen (p := ⟨w.heap.size + 1, 1, none⟩) (by have := HSX.out; dsimp only; omega)).trans FR1
              have HBw : Hid (Below w.heap.size w wz) := HBx.out.trans (HBz.out.mono (by have := HSX.out; omega))
              clear hoz hgz bz HBz HBy X0 X1 K0 K1 FK R0 R1 FR0 FR1 HOW
              go_wp2_with fail
              refine hK.out _ _ ⟨ez0, ez1⟩ (fun hHeld => ?_)
              clear hK K
              try simp only [Act.put, List.setIfInBounds_toArray, List.set_cons_zero, List.set_cons_succ]
              refine' wpAnyH_take (i := 14) (v := ?v26) rfl (by kernel_rfl) (by kernel_rfl) (by kernel_rfl) (fun _ _ _ h => h) (Or.inl ⟨by kernel_rfl, ?hy26⟩) (by assumption) ?rest26
              case hy26 => (intro w hSw; (try dsimp only at hSw); go_simp; try with_reducible rfl)
              try simp only [Act.put, List.setIfInBounds_toArray, List.set_cons_zero, List.set_cons_succ]
              refine' wpAnyH_take (i := 15) (v := ?v27) rfl (by kernel_rfl) (by kernel_rfl) (by kernel_rfl) (fun _ _ _ h => h) (Or.inl ⟨by kernel_rfl, ?hy27⟩) (by assumption) ?rest27
              case hy27 => (intro w hSw; (try dsimp only at hSw); go_simp; try with_reducible rfl)
              try simp only [Act.put, List.setIfInBounds_toArray, List.set_cons_zero, List.set_cons_succ]
              refine' wpAnyH_take (i := 16) (v := ?v28) rfl (by kernel_rfl) (by kernel_rfl) (by kernel_rfl) (fun _ _ _ h => h) (Or.inl ⟨by kernel_rfl, ?hy28⟩) (by assumption) ?rest28
              case hy28 => (intro w hSw; (try dsimp only at hSw); go_simp; try with_reducible rfl)
              try simp only [Act.put, List.setIfInBounds_toArray, List.set_cons_zero, List.set_cons_succ]
              refine wpAnyH_ready (rs := [17]) (by kernel_rfl) (by simp) ?_
              refine AllReadyH.cons rfl (fun K hK => ?_) AllReadyH.nil
              go_simp
              refine hK.out _ _ ⟨(World.cell?_setCell_other _ _ _ _ (by intro e; injection e with e _; omega)).trans ez0, (World.cell?_setCell_other _ _ _ _ (by intro e; injection e with e _; omega)).trans ez1⟩ (fun hHeld => ?_)
              clear hK K
              try simp only [Act.put, List.setIfInBounds_toArray, List.set_cons_zero, List.set_cons_succ]
              refine wpAnyH_done (by kernel_rfl) ?_ _
              refine NoPanic.normal ?_
              go_wp2_with fail
              (try simp only [Exit.inBlock, Exit.then])
              refine bodyPost_cell (V := .agg #[.int .i64 now, .slice (some ⟨gz, 0, none⟩) (n + 1) cz]) rfl rfl ?_ rfl ?_
              · go_simp
              · refine ⟨_, rfl, ?_, ?_⟩
                · have h1 := HSX.out
                  have h2 := HGZ.out
                  exact (((HZ.out.set_other (by omega)).set_other (by omega)).set_other (by omega)).n
                · exact ((HBw.out.setCell (p := ⟨w.heap.size + 1 + 1, 1, none⟩) (by dsimp only; omega) _).setCell (p := ⟨w.heap.size + 1, 0, none⟩) (by dsimp only; omega) _).setCell (p := ⟨w.heap.size + 1, 1, none⟩) (by dsimp only; omega) _
end Go.Proofs.Ytffnkgfpbjmkbaa
