/- lease: Renew, Turn at any locks. -/
import Derived.Test.YtffnkgfpbjmkbaaLkRen
namespace Go.Proofs.Ytffnkgfpbjmkbaa
open Go.RowKit
set_option linter.unusedVariables false
set_option linter.unusedSimpArgs false
def setU (l : List Lk) (i : Nat) (u : Int) : List Lk := l.modify i fun x => ⟨x.o, x.s, u⟩
def setS (l : List Lk) (i : Nat) (s : Bool) : List Lk := l.modify i fun x => ⟨x.o, s, x.u⟩
theorem setU_eq (l : List Lk) (i : Nat) (h : i < l.length) (u : Int) : l.set i ⟨l[i].o, l[i].s, u⟩ = setU l i u := by
  unfold setU
  refine List.ext_getElem (by simp) fun j h1 h2 => ?_
  rw [List.getElem_set, List.getElem_modify]
  by_cases e : i = j
  · subst e; simp
  · simp [e]
theorem setS_eq (l : List Lk) (i : Nat) (h : i < l.length) (s : Bool) : l.set i ⟨l[i].o, s, l[i].u⟩ = setS l i s := by
  unfold setS
  refine List.ext_getElem (by simp) fun j h1 h2 => ?_
  rw [List.getElem_set, List.getElem_modify]
  by_cases e : i = j
  · subst e; simp
  · simp [e]
theorem setU_len (l : List Lk) (i : Nat) (u : Int) : (setU l i u).length = l.length := by simp [setU]
theorem setS_len (l : List Lk) (i : Nat) (s : Bool) : (setS l i s).length = l.length := by simp [setS]
def renP (now : Int) (l : List Lk) (owner : UInt64) (ticks : Int) : List Lk × Int := if tickB ticks = false then (l, 4) else if hasO l owner = true then (setU l (placeO l owner) (now + ticks), 0) else (l, 5)
def turnP (l : List Lk) (owner : UInt64) (shared : Bool) : List Lk × Int := if hasO l owner = true then (if shared = false ∧ 1 < l.length then (l, 14) else (setS l (placeO l owner) shared, 0)) else (l, 5)
set_option maxRecDepth 20000 in
set_option maxHeartbeats 3000000 in
theorem renew_any (now : Int) (v : Value) (l : List Lk) (owner : UInt64) (ticks : Int) (w : World) (hv : LksN w v l) (hr : RisO l) (hl : l.length ≤ 1000000) (h0 : 0 ≤ now) (h1 : now ≤ 1000000000000) :
    Calls Try.prog 10 #[Lc now v, .int .u64 owner.toNat, .int .i64 ticks] w fun e w' => ∃ v', e = .returned (.tuple #[Lc now v', .int .i64 (renP now l owner ticks).2]) ∧ LksN w' v' (renP now l owner ticks).1 ∧ Below w.heap.size w w' := by
  have HT := Lib.hid (tick_any ticks)
  have HV := Lib.hid hv
  have HPL := Lib.hid (@hasO_lt l owner)
  have HR := Lib.hid hr
  have HL := Lib.hid hl
  obtain ⟨A, c, rfl, h2, h3, h4⟩ := hv.1
  have hc9 : c ≤ 9223372036854775807 := by unfold maxLen at h3; omega
  obtain ⟨n, hn⟩ : ∃ n, n = l.length := ⟨_, rfl⟩
  have HN := Lib.hid hn
  rw [← hn] at HV
  unfold Lc
  rw [← hn]
  clear h2 h3 h4 hv hl hr hn
  unfold renP
  cases ht : tickB ticks with
  | false =>
    rw [ht] at HT
    rw [if_pos rfl]
    clear ht
    have HB3 : Hid (Below w.heap.size w ((((w.alloc (.cells #[.int .i64 now, .slice A n c] 27)).alloc (.cells #[.int .i64 ticks] 2)).alloc (.cells #[.int .i64 0, .slice none 0 0] 27)))) := (((Below.refl _ _).alloc (Nat.le_refl _) _).alloc (by simp) _).alloc (by simp; omega) _
    have q3 : (((w.alloc (.cells #[.int .i64 now, .slice A n c] 27)).alloc (.cells #[.int .i64 ticks] 2)).alloc (.cells #[.int .i64 0, .slice none 0 0] 27)).heap[w.heap.size + 1 + 1]? = some (.cells #[.int .i64 0, .slice none 0 0] 27) := by
      have := heap_alloc_new ((w.alloc (.cells #[.int .i64 now, .slice A n c] 27)).alloc (.cells #[.int .i64 ticks] 2)) (.cells #[.int .i64 0, .slice none 0 0] 27)
      simpa using this
    have q1 : (((w.alloc (.cells #[.int .i64 now, .slice A n c] 27)).alloc (.cells #[.int .i64 ticks] 2)).alloc (.cells #[.int .i64 0, .slice none 0 0] 27)).heap[w.heap.size]? = some (.cells #[.int .i64 now, .slice A n c] 27) := by
      rw [heap_alloc_old _ _ (by simp; omega), heap_alloc_old _ _ (by simp)]
      exact heap_alloc_new _ _
    obtain ⟨wx, hwx⟩ : ∃ wx, wx = ((w.alloc (.cells #[.int .i64 now, .slice A n c] 27)).alloc (.cells #[.int .i64 ticks] 2)).alloc (.cells #[.int .i64 0, .slice none 0 0] 27) := ⟨_, rfl⟩
    rw [← hwx] at q1 q3 HB3
    have X0 := (cells2 q1).1
    have X1 := (cells2 q1).2.1
    have R0 := (cells2 q3).1
    have R1 := (cells2 q3).2.1
    have FR := (cells2 q3).2.2
    have FR0 := FR 0
    have FR1 := FR 1
    have HWX := Lib.hid hwx
    have HEND : Hid (Below w.heap.size w ((wx.setCell ⟨w.heap.size + 1 + 1, 0, none⟩ (.int .i64 now)).setCell ⟨w.heap.size + 1 + 1, 1, none⟩ (.slice A n c))) := (HB3.out.setCell (p := ⟨w.heap.size + 1 + 1, 0, none⟩) (by dsimp only; omega) _).setCell (p := ⟨w.heap.size + 1 + 1, 1, none⟩) (by dsimp only; omega) _
    clear q1 q3 hwx HB3 FR
    go_enter Try.func10, Try.ntmps10
    go_wp2_with fail
    refine (HT.out _).mono ?_
    rintro e w' ⟨rfl, rfl⟩
    rw [← HWX.out]
    go_wp2_with fail
    (try simp only [Exit.inBlock, Exit.then])
    refine bodyPost_cell (V := .agg #[.int .i64 now, .slice A n c]) rfl rfl ?_ rfl ?_
    · go_simp
    · exact ⟨_, rfl, HV.out.below HEND.out (Nat.le_refl _), HEND.out⟩
  | true =>
    rw [ht] at HT
    rw [if_neg (by decide)]
    have HTB : Hid (0 < ticks ∧ ticks ≤ 1000) := by unfold Hid; unfold tickB at ht; simpa using ht
    clear ht
    obtain ⟨wx, hwx⟩ : ∃ wx, wx = (((w.alloc (.cells #[.int .i64 now, .slice A n c] 27)).alloc (.cells #[.int .i64 ticks] 2)).alloc (.cells #[.int .i64 0, .slice none 0 0] 27)).alloc (.cells #[.int .i64 now, .slice A n c] 57) := ⟨_, rfl⟩
    obtain ⟨q1, q2, q3, q4⟩ := heap4 w (.cells #[.int .i64 now, .slice A n c] 27) (.cells #[.int .i64 ticks] 2) (.cells #[.int .i64 0, .slice none 0 0] 27) (.cells #[.int .i64 now, .slice A n c] 57)
    have hsx : wx.heap.size = w.heap.size + 4 := by rw [hwx]; simp
    have HBx : Hid (Below w.heap.size w wx) := by unfold Hid; rw [hwx]; exact ((((Below.refl _ _).alloc (Nat.le_refl _) _).alloc (by simp) _).alloc (by simp; omega) _).alloc (by simp; omega) _
    rw [← hwx] at q1 q2 q3 q4
    cases hh : hasO l owner with
    | true =>
      have hin := HPL.out hh
      rw [if_pos rfl]
      have HCh := Lib.hid (changeR_any (w.heap.size + 1 + 1 + 1) (placeO l owner) w.heap.size (w.heap.size + 1) now ticks (.slice A n c) l owner wx (HV.out.below HBx.out (Nat.le_refl _)) HR.out HL.out hh rfl hin (cells2 q4).2.1 ((cells2 q4).2.2 1) (by omega) (cells2 q1).1 (by omega) (by omega) (cells1 q2) (by omega) (by omega) h0 h1 HTB.out)
      rw [setU_eq l _ hin] at HCh
      have R0 := (cells2 q3).1
      have R1 := (cells2 q3).2.1
      have FR := (cells2 q3).2.2
      have K0 := (cells2 q4).1
      have K1 := (cells2 q4).2.1
      have HSX := Lib.hid hsx
      have HWX := Lib.hid hwx
      clear q1 q2 q3 q4 hsx hwx hh hin HPL HR HL
      go_enter Try.func10, Try.ntmps10
      go_wp2_with fail
      refine (HT.out _).mono ?_
      rintro e w' ⟨rfl, rfl⟩
      go_wp2_with fail
      rw [← HWX.out]
      clear K1
      refine HCh.out.mono ?_
      rintro e w2 ⟨rfl, gc, cc, k1, hrow, hgc, k0, hgr⟩
      have K0' := k0.trans K0
      have hblk := hgr.block (w.heap.size + 1 + 1) (by have := HSX.out; omega) (by simp)
      have R0' := (World.cell?_of_block (a := ⟨w.heap.size + 1 + 1, 0, none⟩) hblk).trans R0
      have R1' := (World.cell?_of_block (a := ⟨w.heap.size + 1 + 1, 1, none⟩) hblk).trans R1
      have FR0' := (World.frozen?_of_block (a := ⟨w.heap.size + 1 + 1, 0, none⟩) hblk).trans (FR 0)
      have FR1' := (World.frozen?_of_block (a := ⟨w.heap.size + 1 + 1, 1, none⟩) hblk).trans (FR 1)
      have HB2 : Hid (Below w.heap.size w w2) := ⟨hgr.os.trans HBx.out.os, hgr.tape.trans HBx.out.tape, hgr.output.trans HBx.out.output, Nat.le_trans HBx.out.size hgr.size, fun i hi => (hgr.block i (by have := HSX.out; omega) (by simp; omega)).trans (HBx.out.block i hi)⟩
      have hgn : gc ≠ w.heap.size + 1 + 1 := by have := HSX.out; omega
      have HEND : Hid (LksN ((w2.setCell ⟨w.heap.size + 1 + 1, 0, none⟩ (.int .i64 now)).setCell ⟨w.heap.size + 1 + 1, 1, none⟩ (.slice (some ⟨gc, 0, none⟩) (setU l (placeO l owner) (now + ticks)).length cc)) (.slice (some ⟨gc, 0, none⟩) (setU l (placeO l owner) (now + ticks)).length cc) (setU l (placeO l owner) (now + ticks)) ∧ Below w.heap.size w ((w2.setCell ⟨w.heap.size + 1 + 1, 0, none⟩ (.int .i64 now)).setCell ⟨w.heap.size + 1 + 1, 1, none⟩ (.slice (some ⟨gc, 0, none⟩) (setU l (placeO l owner) (now + ticks)).length cc))) :=
        ⟨((hrow.set_other hgn).set_other hgn).n, (HB2.out.setCell (p := ⟨w.heap.size + 1 + 1, 0, none⟩) (by dsimp only; omega) _).setCell (p := ⟨w.heap.size + 1 + 1, 1, none⟩) (by dsimp only; omega) _⟩
      generalize (setU l (placeO l owner) (now + ticks)).length = z at *
      clear hblk hgr hrow k0 R0 R1 FR K0 hgn
      go_wp2_with fail
      (try simp only [Exit.inBlock, Exit.then])
      refine bodyPost_cell (V := .agg #[.int .i64 now, .slice (some ⟨gc, 0, none⟩) z cc]) rfl rfl ?_ rfl ?_
      · go_simp
      · exact ⟨_, rfl, HEND.out.1, HEND.out.2⟩
    | false =>
      rw [if_neg (by decide)]
      have HCh := Lib.hid (changeR_none (w.heap.size + 1 + 1 + 1) w.heap.size (w.heap.size + 1) now ticks (.slice A n c) l owner wx (HV.out.below HBx.out (Nat.le_refl _)) HR.out HL.out hh (cells2 q4).2.1)
      have R0 := (cells2 q3).1
      have R1 := (cells2 q3).2.1
      have FR := (cells2 q3).2.2
      have K0 := (cells2 q4).1
      have K1 := (cells2 q4).2.1
      have HSX := Lib.hid hsx
      have HWX := Lib.hid hwx
      clear q1 q2 q3 q4 hsx hwx hh HPL HR HL
      go_enter Try.func10, Try.ntmps10
      go_wp2_with fail
      refine (HT.out _).mono ?_
      rintro e w' ⟨rfl, rfl⟩
      go_wp2_with fail
      rw [← HWX.out]
      refine HCh.out.mono ?_
      rintro e w2 ⟨rfl, b2⟩
      have K0' := (b2.cell (p := ⟨w.heap.size + 1 + 1 + 1, 0, none⟩) (by have := HSX.out; dsimp only; omega)).trans K0
      have K1' := (b2.cell (p := ⟨w.heap.size + 1 + 1 + 1, 1, none⟩) (by have := HSX.out; dsimp only; omega)).trans K1
      have R0' := (b2.cell (p := ⟨w.heap.size + 1 + 1, 0, none⟩) (by have := HSX.out; dsimp only; omega)).trans R0
      have R1' := (b2.cell (p := ⟨w.heap.size + 1 + 1, 1, none⟩) (by have := HSX.out; dsimp only; omega)).trans R1
      have FR0' := (b2.frozen (p := ⟨w.heap.size + 1 + 1, 0, none⟩) (by have := HSX.out; dsimp only; omega)).trans (FR 0)
      have FR1' := (b2.frozen (p := ⟨w.heap.size + 1 + 1, 1, none⟩) (by have := HSX.out; dsimp only; omega)).trans (FR 1)
      have HB2 : Hid (Below w.heap.size w w2) := HBx.out.trans (b2.mono HBx.out.size)
      have HEND : Hid (Below w.heap.size w ((w2.setCell ⟨w.heap.size + 1 + 1, 0, none⟩ (.int .i64 now)).setCell ⟨w.heap.size + 1 + 1, 1, none⟩ (.slice A n c))) := (HB2.out.setCell (p := ⟨w.heap.size + 1 + 1, 0, none⟩) (by dsimp only; omega) _).setCell (p := ⟨w.heap.size + 1 + 1, 1, none⟩) (by dsimp only; omega) _
      clear b2 R0 R1 FR K0 K1
      go_wp2_with fail
      (try simp only [Exit.inBlock, Exit.then])
      refine bodyPost_cell (V := .agg #[.int .i64 now, .slice A n c]) rfl rfl ?_ rfl ?_
      · go_simp
      · exact ⟨_, rfl, HV.out.below HEND.out (Nat.le_refl _), HEND.out⟩
set_option maxRecDepth 20000 in
set_option maxHeartbeats 3000000 in
theorem turn_any (now : Int) (v : Value) (l : List Lk) (owner : UInt64) (shared : Bool) (w : World) (hv : LksN w v l) (hr : RisO l) (hl : l.length ≤ 1000000) :
    Calls Try.prog 21 #[Lc now v, .int .u64 owner.toNat, .bool shared] w fun e w' => ∃ v', e = .returned (.tuple #[Lc now v', .int .i64 (turnP l owner shared).2]) ∧ LksN w' v' (turnP l owner shared).1 ∧ Below w.heap.size w w' := by
  have HV := Lib.hid hv
  have HPL := Lib.hid (@hasO_lt l owner)
  have HR := Lib.hid hr
  have HL := Lib.hid hl
  obtain ⟨A, c, rfl, h2, h3, h4⟩ := hv.1
  have hc9 : c ≤ 9223372036854775807 := by unfold maxLen at h3; omega
  obtain ⟨n, hn⟩ : ∃ n, n = l.length := ⟨_, rfl⟩
  have HN := Lib.hid hn
  rw [← hn] at HV
  unfold Lc
  rw [← hn]
  clear h2 h3 h4 hv hl hr hn
  unfold turnP
  rw [← HN.out]
  obtain ⟨wx, hwx⟩ : ∃ wx, wx = (((w.alloc (.cells #[.int .i64 now, .slice A n c] 27)).alloc (.cells #[.bool shared] 4)).alloc (.cells #[.int .i64 0, .slice none 0 0] 27)).alloc (.cells #[.int .i64 now, .slice A n c] 57) := ⟨_, rfl⟩
  obtain ⟨q1, q2, q3, q4⟩ := heap4 w (.cells #[.int .i64 now, .slice A n c] 27) (.cells #[.bool shared] 4) (.cells #[.int .i64 0, .slice none 0 0] 27) (.cells #[.int .i64 now, .slice A n c] 57)
  have hsx : wx.heap.size = w.heap.size + 4 := by rw [hwx]; simp
  have HBx : Hid (Below w.heap.size w wx) := by unfold Hid; rw [hwx]; exact ((((Below.refl _ _).alloc (Nat.le_refl _) _).alloc (by simp) _).alloc (by simp; omega) _).alloc (by simp; omega) _
  rw [← hwx] at q1 q2 q3 q4
  have HAT := Lib.hid (atL_any (w.heap.size + 1 + 1 + 1) (.slice A n c) l owner wx (HV.out.below HBx.out (Nat.le_refl _)).1 HR.out (by have := HL.out; omega) (cells2 q4).2.1)
  have R0 := (cells2 q3).1
  have R1 := (cells2 q3).2.1
  have FR := (cells2 q3).2.2
  have K0 := (cells2 q4).1
  have K1 := (cells2 q4).2.1
  have HSX := Lib.hid hsx
  have HWX := Lib.hid hwx
  have HBOX : Hid (wx.cell? ⟨w.heap.size, 0, none⟩ = some (.int .i64 now) ∧ wx.cell? ⟨w.heap.size, 1, none⟩ = some (.slice A n c) ∧ wx.cell? ⟨w.heap.size + 1, 0, none⟩ = some (.bool shared) ∧ wx.cell? ⟨w.heap.size + 1 + 1, 0, none⟩ = some (.int .i64 0) ∧ wx.cell? ⟨w.heap.size + 1 + 1, 1, none⟩ = some (.slice none 0 0) ∧ wx.cell? ⟨w.heap.size + 1 + 1 + 1, 0, none⟩ = some (.int .i64 now) ∧ wx.cell? ⟨w.heap.size + 1 + 1 + 1, 1, none⟩ = some (.slice A n c) ∧ (∀ j, wx.frozen? ⟨w.heap.size + 1 + 1, j, none⟩ = false) ∧ ∀ j, wx.frozen? ⟨w.heap.size + 1 + 1 + 1, j, none⟩ = false) := ⟨(cells2 q1).1, (cells2 q1).2.1, cells1 q2, R0, R1, K0, K1, FR, (cells2 q4).2.2⟩
  clear q1 q2 q3 q4 hwx R0 R1 FR K0 K1
  generalize hie : placeO l owner = i at HAT HPL ⊢
  have HIE := Lib.hid hie
  clear hie
  have AT : Hid (Hid (∀ w', Below wx.heap.size wx w' → w'.cell? ⟨w.heap.size, 0, none⟩ = some (.int .i64 now) ∧ w'.cell? ⟨w.heap.size, 1, none⟩ = some (.slice A n c) ∧ w'.cell? ⟨w.heap.size + 1, 0, none⟩ = some (.bool shared) ∧ w'.cell? ⟨w.heap.size + 1 + 1, 0, none⟩ = some (.int .i64 0) ∧ w'.cell? ⟨w.heap.size + 1 + 1, 1, none⟩ = some (.slice none 0 0) ∧ w'.cell? ⟨w.heap.size + 1 + 1 + 1, 0, none⟩ = some (.int .i64 now) ∧ w'.cell? ⟨w.heap.size + 1 + 1 + 1, 1, none⟩ = some (.slice A n c) ∧ (∀ j, w'.frozen? ⟨w.heap.size + 1 + 1, j, none⟩ = false) ∧ ∀ j, w'.frozen? ⟨w.heap.size + 1 + 1 + 1, j, none⟩ = false)) := by
    intro w' b
    have hs := HSX.out
    obtain ⟨y0, y1, y2, y3, y4, y5, y6, y7, y8⟩ := HBOX.out
    exact ⟨(b.cell (p := ⟨w.heap.size, 0, none⟩) (by dsimp only; omega)).trans y0, (b.cell (p := ⟨w.heap.size, 1, none⟩) (by dsimp only; omega)).trans y1, (b.cell (p := ⟨w.heap.size + 1, 0, none⟩) (by dsimp only; omega)).trans y2, (b.cell (p := ⟨w.heap.size + 1 + 1, 0, none⟩) (by dsimp only; omega)).trans y3, (b.cell (p := ⟨w.heap.size + 1 + 1, 1, none⟩) (by dsimp only; omega)).trans y4, (b.cell (p := ⟨w.heap.size + 1 + 1 + 1, 0, none⟩) (by dsimp only; omega)).trans y5, (b.cell (p := ⟨w.heap.size + 1 + 1 + 1, 1, none⟩) (by dsimp only; omega)).trans y6, fun j => (b.frozen (p := ⟨w.heap.size + 1 + 1, j, none⟩) (by dsimp only; omega)).trans (y7 j), fun j => (b.frozen (p := ⟨w.heap.size + 1 + 1 + 1, j, none⟩) (by dsimp only; omega)).trans (y8 j)⟩
  have HLN : Hid (n ≤ 1000000) := by unfold Hid; have := HL.out; have := HN.out; omega
  have HCHY := Lib.hid (fun (hh : hasO l owner = true) w1 (b1 : Below wx.heap.size wx w1) => changeT_any (w.heap.size + 1 + 1 + 1) i (w.heap.size + 1) shared (.slice A n c) l owner w1 (HV.out.below (HBx.out.trans (b1.mono HBx.out.size)) (Nat.le_refl _)) HR.out HL.out hh HIE.out.symm (HPL.out hh) (AT.out w1 b1).2.2.2.2.2.2.1 ((AT.out w1 b1).2.2.2.2.2.2.2.2 1) (by have := HSX.out; have := b1.size; omega) (AT.out w1 b1).2.2.1 (by have := HSX.out; have := b1.size; omega) (by omega))
  have HCHN := Lib.hid (fun (hh : hasO l owner = false) w1 (b1 : Below wx.heap.size wx w1) => changeT_none (w.heap.size + 1 + 1 + 1) (w.heap.size + 1) shared (.slice A n c) l owner w1 (HV.out.below (HBx.out.trans (b1.mono HBx.out.size)) (Nat.le_refl _)) HR.out HL.out hh (AT.out w1 b1).2.2.2.2.2.2.1)
  clear HBOX
  cases hh : hasO l owner with
  | false =>
    rw [if_neg (by decide)]
    rw [hh] at HAT
    have HCh := Lib.hid (HCHN.out hh)
    clear HCHN HCHY HPL HR HL hh HIE
    go_enter Try.func21, Try.ntmps21
    go_wp2_with fail
    rw [← HWX.out]
    refine HAT.out.mono ?_
    rintro e w1 ⟨rfl, b1⟩
    obtain ⟨X0, X1, P0, R0, R1, K0, K1, FR, FK⟩ := AT.out w1 b1
    have HB1 := Lib.hid b1
    have hsz1 : w.heap.size + 4 ≤ w1.heap.size := by have := HSX.out; have := b1.size; omega
    have HBx1 : Hid (Below w.heap.size w w1) := HBx.out.trans (b1.mono HBx.out.size)
    clear b1 FK
    clear hsx
    cases shared <;> (go_wp2_with fail; refine (HCh.out _ HB1.out).mono ?_)
    · rintro e w2 ⟨rfl, b2⟩
      have K0' := (b2.cell (p := ⟨w.heap.size + 1 + 1 + 1, 0, none⟩) (by have := hsz1; dsimp only; omega)).trans K0
      have K1' := (b2.cell (p := ⟨w.heap.size + 1 + 1 + 1, 1, none⟩) (by have := hsz1; dsimp only; omega)).trans K1
      have R0' := (b2.cell (p := ⟨w.heap.size + 1 + 1, 0, none⟩) (by have := hsz1; dsimp only; omega)).trans R0
      have R1' := (b2.cell (p := ⟨w.heap.size + 1 + 1, 1, none⟩) (by have := hsz1; dsimp only; omega)).trans R1
      have FR0' := (b2.frozen (p := ⟨w.heap.size + 1 + 1, 0, none⟩) (by have := hsz1; dsimp only; omega)).trans (FR 0)
      have FR1' := (b2.frozen (p := ⟨w.heap.size + 1 + 1, 1, none⟩) (by have := hsz1; dsimp only; omega)).trans (FR 1)
      have HB2 : Hid (Below w.heap.size w w2) := HBx1.out.trans (b2.mono HBx1.out.size)
      have HEND : Hid (Below w.heap.size w ((w2.setCell ⟨w.heap.size + 1 + 1, 0, none⟩ (.int .i64 now)).setCell ⟨w.heap.size + 1 + 1, 1, none⟩ (.slice A n c))) := (HB2.out.setCell (p := ⟨w.heap.size + 1 + 1, 0, none⟩) (by dsimp only; omega) _).setCell (p := ⟨w.heap.size + 1 + 1, 1, none⟩) (by dsimp only; omega) _
      clear b2 R0 R1 FR K0 K1
      go_wp2_with fail
      (try simp only [Exit.inBlock, Exit.then])
      refine bodyPost_cell (V := .agg #[.int .i64 now, .slice A n c]) rfl rfl ?_ rfl ?_
      · go_simp
      · exact ⟨_, rfl, HV.out.below HEND.out (Nat.le_refl _), HEND.out⟩
    · rintro e w2 ⟨rfl, b2⟩
      have K0' := (b2.cell (p := ⟨w.heap.size + 1 + 1 + 1, 0, none⟩) (by have := hsz1; dsimp only; omega)).trans K0
      have K1' := (b2.cell (p := ⟨w.heap.size + 1 + 1 + 1, 1, none⟩) (by have := hsz1; dsimp only; omega)).trans K1
      have R0' := (b2.cell (p := ⟨w.heap.size + 1 + 1, 0, none⟩) (by have := hsz1; dsimp only; omega)).trans R0
      have R1' := (b2.cell (p := ⟨w.heap.size + 1 + 1, 1, none⟩) (by have := hsz1; dsimp only; omega)).trans R1
      have FR0' := (b2.frozen (p := ⟨w.heap.size + 1 + 1, 0, none⟩) (by have := hsz1; dsimp only; omega)).trans (FR 0)
      have FR1' := (b2.frozen (p := ⟨w.heap.size + 1 + 1, 1, none⟩) (by have := hsz1; dsimp only; omega)).trans (FR 1)
      have HB2 : Hid (Below w.heap.size w w2) := HBx1.out.trans (b2.mono HBx1.out.size)
      have HEND : Hid (Below w.heap.size w ((w2.setCell ⟨w.heap.size + 1 + 1, 0, none⟩ (.int .i64 now)).setCell ⟨w.heap.size + 1 + 1, 1, none⟩ (.slice A n c))) := (HB2.out.setCell (p := ⟨w.heap.size + 1 + 1, 0, none⟩) (by dsimp only; omega) _).setCell (p := ⟨w.heap.size + 1 + 1, 1, none⟩) (by dsimp only; omega) _
      clear b2 R0 R1 FR K0 K1
      go_wp2_with fail
      (try simp only [Exit.inBlock, Exit.then])
      refine bodyPost_cell (V := .agg #[.int .i64 now, .slice A n c]) rfl rfl ?_ rfl ?_
      · go_simp
      · exact ⟨_, rfl, HV.out.below HEND.out (Nat.le_refl _), HEND.out⟩
  | true =>
    rw [if_pos rfl]
    rw [hh] at HAT
    have HCh := Lib.hid (HCHY.out hh)
    have hin := HPL.out hh
    rw [setS_eq l _ hin] at HCh
    clear HCHN HCHY HPL HR HL hh HIE hin hsx
    cases shared with
    | true =>
      rw [if_neg (by simp)]
      go_enter Try.func21, Try.ntmps21
      go_wp2_with fail
      rw [← HWX.out]
      refine HAT.out.mono ?_
      rintro e w1 ⟨rfl, b1⟩
      obtain ⟨X0, X1, P0, R0, R1, K0, K1, FR, FK⟩ := AT.out w1 b1
      have HB1 := Lib.hid b1
      have hsz1 : w.heap.size + 4 ≤ w1.heap.size := by have := HSX.out; have := b1.size; omega
      have HBx1 : Hid (Below w.heap.size w w1) := HBx.out.trans (b1.mono HBx.out.size)
      clear b1 FK
      go_wp2_with fail
      refine (HCh.out _ HB1.out).mono ?_
      rintro e w2 ⟨rfl, gc, cc, k1, hrow, hgc, k0, hgr⟩
      have K0' := k0.trans K0
      have hblk := hgr.block (w.heap.size + 1 + 1) (by have := hsz1; omega) (by simp)
      have R0' := (World.cell?_of_block (a := ⟨w.heap.size + 1 + 1, 0, none⟩) hblk).trans R0
      have R1' := (World.cell?_of_block (a := ⟨w.heap.size + 1 + 1, 1, none⟩) hblk).trans R1
      have FR0' := (World.frozen?_of_block (a := ⟨w.heap.size + 1 + 1, 0, none⟩) hblk).trans (FR 0)
      have FR1' := (World.frozen?_of_block (a := ⟨w.heap.size + 1 + 1, 1, none⟩) hblk).trans (FR 1)
      have HB2 : Hid (Below w.heap.size w w2) := ⟨hgr.os.trans HBx1.out.os, hgr.tape.trans HBx1.out.tape, hgr.output.trans HBx1.out.output, Nat.le_trans HBx1.out.size hgr.size, fun i hi => (hgr.block i (by have := hsz1; omega) (by simp; omega)).trans (HBx1.out.block i hi)⟩
      have hgn : gc ≠ w.heap.size + 1 + 1 := by have := hsz1; omega
      have HEND : Hid (LksN ((w2.setCell ⟨w.heap.size + 1 + 1, 0, none⟩ (.int .i64 now)).setCell ⟨w.heap.size + 1 + 1, 1, none⟩ (.slice (some ⟨gc, 0, none⟩) (setS l i true).length cc)) (.slice (some ⟨gc, 0, none⟩) (setS l i true).length cc) (setS l i true) ∧ Below w.heap.size w ((w2.setCell ⟨w.heap.size + 1 + 1, 0, none⟩ (.int .i64 now)).setCell ⟨w.heap.size + 1 + 1, 1, none⟩ (.slice (some ⟨gc, 0, none⟩) (setS l i true).length cc))) :=
        ⟨((hrow.set_other hgn).set_other hgn).n, (HB2.out.setCell (p := ⟨w.heap.size + 1 + 1, 0, none⟩) (by dsimp only; omega) _).setCell (p := ⟨w.heap.size + 1 + 1, 1, none⟩) (by dsimp only; omega) _⟩
      generalize (setS l i true).length = z at *
      clear hblk hgr hrow k0 R0 R1 FR K0 hgn
      go_wp2_with fail
      (try simp only [Exit.inBlock, Exit.then])
      refine bodyPost_cell (V := .agg #[.int .i64 now, .slice (some ⟨gc, 0, none⟩) z cc]) rfl rfl ?_ rfl ?_
      · go_simp
      · exact ⟨_, rfl, HEND.out.1, HEND.out.2⟩
    | false =>
      by_cases hn1 : 1 < n
      · have d1 : decide ((1 : Int) < (n : Int)) = true := by simp; omega
        have d2 : decide (1 < n) = true := by simp; omega
        rw [if_pos ⟨rfl, hn1⟩]
        clear hn1
        go_enter Try.func21, Try.ntmps21
        go_wp2_with fail
        rw [← HWX.out]
        refine HAT.out.mono ?_
        rintro e w1 ⟨rfl, b1⟩
        obtain ⟨X0, X1, P0, R0, R1, K0, K1, FR, FK⟩ := AT.out w1 b1
        have HB1 := Lib.hid b1
        have hsz1 : w.heap.size + 4 ≤ w1.heap.size := by have := HSX.out; have := b1.size; omega
        have HBx1 : Hid (Below w.heap.size w w1) := HBx.out.trans (b1.mono HBx.out.size)
        clear b1 FK
        have FR0 := FR 0
        have FR1 := FR 1
        have HEND : Hid (Below w.heap.size w ((w1.setCell ⟨w.heap.size + 1 + 1, 0, none⟩ (.int .i64 now)).setCell ⟨w.heap.size + 1 + 1, 1, none⟩ (.slice A n c))) := (HBx1.out.setCell (p := ⟨w.heap.size + 1 + 1, 0, none⟩) (by dsimp only; omega) _).setCell (p := ⟨w.heap.size + 1 + 1, 1, none⟩) (by dsimp only; omega) _
        clear FR K0 K1
        go_wp2_with fail
        (try simp only [Exit.inBlock, Exit.then])
        refine bodyPost_cell (V := .agg #[.int .i64 now, .slice A n c]) rfl rfl ?_ rfl ?_
        · go_simp
        · exact ⟨_, rfl, HV.out.below HEND.out (Nat.le_refl _), HEND.out⟩
      · have d1 : decide ((1 : Int) < (n : Int)) = false := by simp; omega
        have d2 : decide (1 < n) = false := by simp; omega
        rw [if_neg (fun h => hn1 h.2)]
        clear hn1
        go_enter Try.func21, Try.ntmps21
        go_wp2_with fail
        rw [← HWX.out]
        refine HAT.out.mono ?_
        rintro e w1 ⟨rfl, b1⟩
        obtain ⟨X0, X1, P0, R0, R1, K0, K1, FR, FK⟩ := AT.out w1 b1
        have HB1 := Lib.hid b1
        have hsz1 : w.heap.size + 4 ≤ w1.heap.size := by have := HSX.out; have := b1.size; omega
        have HBx1 : Hid (Below w.heap.size w w1) := HBx.out.trans (b1.mono HBx.out.size)
        clear b1 FK
        go_wp2_with fail
        refine (HCh.out _ HB1.out).mono ?_
        rintro e w2 ⟨rfl, gc, cc, k1, hrow, hgc, k0, hgr⟩
        have K0' := k0.trans K0
        have hblk := hgr.block (w.heap.size + 1 + 1) (by have := hsz1; omega) (by simp)
        have R0' := (World.cell?_of_block (a := ⟨w.heap.size + 1 + 1, 0, none⟩) hblk).trans R0
        have R1' := (World.cell?_of_block (a := ⟨w.heap.size + 1 + 1, 1, none⟩) hblk).trans R1
        have FR0' := (World.frozen?_of_block (a := ⟨w.heap.size + 1 + 1, 0, none⟩) hblk).trans (FR 0)
        have FR1' := (World.frozen?_of_block (a := ⟨w.heap.size + 1 + 1, 1, none⟩) hblk).trans (FR 1)
        have HB2 : Hid (Below w.heap.size w w2) := ⟨hgr.os.trans HBx1.out.os, hgr.tape.trans HBx1.out.tape, hgr.output.trans HBx1.out.output, Nat.le_trans HBx1.out.size hgr.size, fun i hi => (hgr.block i (by have := hsz1; omega) (by simp; omega)).trans (HBx1.out.block i hi)⟩
        have hgn : gc ≠ w.heap.size + 1 + 1 := by have := hsz1; omega
        have HEND : Hid (LksN ((w2.setCell ⟨w.heap.size + 1 + 1, 0, none⟩ (.int .i64 now)).setCell ⟨w.heap.size + 1 + 1, 1, none⟩ (.slice (some ⟨gc, 0, none⟩) (setS l i false).length cc)) (.slice (some ⟨gc, 0, none⟩) (setS l i false).length cc) (setS l i false) ∧ Below w.heap.size w ((w2.setCell ⟨w.heap.size + 1 + 1, 0, none⟩ (.int .i64 now)).setCell ⟨w.heap.size + 1 + 1, 1, none⟩ (.slice (some ⟨gc, 0, none⟩) (setS l i false).length cc))) :=
          ⟨((hrow.set_other hgn).set_other hgn).n, (HB2.out.setCell (p := ⟨w.heap.size + 1 + 1, 0, none⟩) (by dsimp only; omega) _).setCell (p := ⟨w.heap.size + 1 + 1, 1, none⟩) (by dsimp only; omega) _⟩
        generalize (setS l i false).length = z at *
        clear hblk hgr hrow k0 R0 R1 FR K0 hgn
        go_wp2_with fail
        (try simp only [Exit.inBlock, Exit.then])
        refine bodyPost_cell (V := .agg #[.int .i64 now, .slice (some ⟨gc, 0, none⟩) z cc]) rfl rfl ?_ rfl ?_
        · go_simp
        · exact ⟨_, rfl, HEND.out.1, HEND.out.2⟩
end Go.Proofs.Ytffnkgfpbjmkbaa
