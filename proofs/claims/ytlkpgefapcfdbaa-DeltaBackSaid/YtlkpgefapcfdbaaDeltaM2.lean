/- Walks: chapter 33's reader: head, part. -/
import Derived.Test.YtlkpgefapcfdbaaDeltaM1
import Derived.Handy
namespace Go.Proofs.Ytlkpgefapcfdbaa
open Go.RowKit
set_option linter.unusedVariables false
set_option linter.unusedSimpArgs false
theorem below_alloc1 (b : Nat) (w : World) (o : Obj) (h : b < w.heap.size) : Below (b + 1) w (w.alloc o) := (Below.refl (b + 1) w).alloc h o
theorem RdAt.alloc {w : World} {b : Nat} {s : ByteArray} (h : RdAt w b s) (o : Obj) : RdAt (w.alloc o) b s := h.below (below_alloc1 b w o h.lt) (Nat.lt_succ_self b)
set_option maxHeartbeats 4000000 in
theorem rHead_none (b : Nat) (s : ByteArray) (w : World) (h : RdAt w b s) (hs : s.size ≤ 1000000) (hr : rdHead s.data.toList = none) :
    Calls Try.prog 33 #[.pointer (some ⟨b, 0, none⟩)] w fun e w' => e = thrownE 2 ∧ w.grownBy w' (some b) := by
  have hl : s.data.toList.length = s.size := by simp
  have hle := vTake_le s.data.toList
  have h1 := fun w (h : RdAt w b s) => rNum_ok b s w h hs
  have h1b := fun w (h : RdAt w b s) => rNum_bad b s w h hs
  unfold rdHead at hr
  generalize hv : vTake s.data.toList = r at *
  obtain ⟨n, k, e⟩ := r
  dsimp only at *
  have hb := h.lt
  have HA := Lib.hid (fun o => h.alloc (w := w) (b := b) (s := s) o)
  by_cases he : e = 0
  · rw [if_neg (by omega)] at hr
    obtain ⟨hk, hk1⟩ := hle he
    rw [hl] at hk
    have H1 := Lib.hid (fun w h => h1 w h he)
    clear h1 h1b hle
    have hsz : (s.extract k s.size).size ≤ 1000000 := by rw [ByteArray.size_extract]; omega
    have hsz2 : (s.extract k s.size).size = s.size - k := by rw [ByteArray.size_extract]; omega
    have hdl : (s.extract k s.size).data.toList = s.data.toList.drop k := by rw [from_list]
    have hle2 := vTake_le (s.data.toList.drop k)
    rw [← hdl] at hr hle2
    generalize s.extract k s.size = t at *
    have htl : t.data.toList.length = t.size := by simp
    have h2 := fun w (h : RdAt w b t) => rNum_ok b t w h hsz
    have h2b := fun w (h : RdAt w b t) => rNum_bad b t w h hsz
    generalize hv2 : vTake t.data.toList = r at *
    obtain ⟨n2, k2, e2⟩ := r
    dsimp only at *
    by_cases he2 : e2 = 0
    · obtain ⟨hk2, hk3⟩ := hle2 he2
      rw [htl] at hk2
      have h4 : t.size - k2 < 4 := by
        refine Nat.lt_of_not_le fun h4 => ?_
        rw [if_neg (by rw [List.length_drop, htl]; omega)] at hr
        cases hr
      have H2 := Lib.hid (fun w h => h2 w h he2)
      have HC := Lib.hid (fun w h => rCut_bad b 4 (t.extract k2 t.size) w h (by rw [ByteArray.size_extract]; omega) (by rw [ByteArray.size_extract]; omega))
      clear h2 h2b hr hle2 hv hv2 hl hdl htl h
      go_enter Try.func33, Try.ntmps33
      go_wp2_with fail
      refine (H1.out _ (HA.out _)).mono ?_
      rintro e w1 ⟨rfl, r1, b1⟩
      have R1 := Lib.hid r1
      have B1 := Lib.hid ((World.grownBy_alloc w _ (some b)).trans b1)
      clear r1 b1
      go_wp2_with fail
      refine (H2.out _ R1.out).mono ?_
      rintro e w2 ⟨rfl, r2, b2⟩
      have R2 := Lib.hid r2
      have B2 := Lib.hid (B1.out.trans b2)
      clear r2 b2 B1
      go_wp2_with fail
      refine (HC.out _ R2.out).mono ?_
      rintro e w3 ⟨rfl, rfl⟩
      unfold thrownE
      go_wp2_with fail
      exact ⟨rfl, rfl, B2.out⟩
    · have H2 := Lib.hid (fun w h => h2b w h he2)
      clear h2 h2b hr hle2 hv hv2 hl hdl htl h
      go_enter Try.func33, Try.ntmps33
      go_wp2_with fail
      refine (H1.out _ (HA.out _)).mono ?_
      rintro e w1 ⟨rfl, r1, b1⟩
      have R1 := Lib.hid r1
      have B1 := Lib.hid ((World.grownBy_alloc w _ (some b)).trans b1)
      clear r1 b1
      go_wp2_with fail
      refine (H2.out _ R1.out).mono ?_
      rintro e w2 ⟨rfl, b2⟩
      have B2 := Lib.hid (B1.out.trans b2)
      clear b2 B1
      unfold thrownE
      go_wp2_with fail
      exact ⟨rfl, rfl, B2.out⟩
  · have H1 := Lib.hid (fun w h => h1b w h he)
    clear h1 h1b hr hle hv hl h
    go_enter Try.func33, Try.ntmps33
    go_wp2_with fail
    refine (H1.out _ (HA.out _)).mono ?_
    rintro e w1 ⟨rfl, b1⟩
    have B1 := Lib.hid ((World.grownBy_alloc w _ (some b)).trans b1)
    clear b1
    unfold thrownE
    go_wp2_with fail
    exact ⟨rfl, rfl, B1.out⟩
theorem bodyPost_cell1 {P : Program} {fn : Func} {R : Ending → World → Prop} {a : Act} {w : World} {V : Value} {a1 : Tmp} {t1 : TypeId} {ad : Addr} (h : fn.results = #[.cell a1 t1]) (hp : a.tmps.getD a1 undef = .pointer (some ad)) (hl : (loadVar t1 ad).run P w = .ok V w) (hd : a.defers = [])
    (hR : R (.returned V) w) : bodyPost P fn R .ret a w :=
  ⟨hd, _, by simp only [results, h, List.mapM_toArray, List.mapM_cons, List.mapM_nil, hp, asAddr]; simp [hl], hR⟩
theorem gr_then {a b' c : World} {row : Option Nat} {j : Nat} (h : a.grownBy b' row) (k : b'.grownBy c (some j)) (hr : a.heap.size ≤ j) : a.grownBy c row :=
  ⟨k.os.trans h.os, k.tape.trans h.tape, k.output.trans h.output, Nat.le_trans h.size k.size, fun i hi hne =>
    (k.block i (Nat.lt_of_lt_of_le hi h.size) (fun e => by injection e with e; omega)).trans (h.block i hi hne)⟩
theorem rdHead_inv (d : List UInt8) (a c : Nat) (sum rest : List UInt8) (h : rdHead d = some (a, c, sum, rest)) :
    (vTake d).2.2 = 0 ∧ (vTake (d.drop (vTake d).2.1)).2.2 = 0 ∧ 4 ≤ ((d.drop (vTake d).2.1).drop (vTake (d.drop (vTake d).2.1)).2.1).length ∧ a = (vTake d).1 ∧ c = (vTake (d.drop (vTake d).2.1)).1 ∧
    sum = ((d.drop (vTake d).2.1).drop (vTake (d.drop (vTake d).2.1)).2.1).take 4 ∧ rest = ((d.drop (vTake d).2.1).drop (vTake (d.drop (vTake d).2.1)).2.1).drop 4 := by
  unfold rdHead at h
  split at h
  · cases h
  · split at h
    · cases h
    · rename_i h1 h2
      simp only [Option.some.injEq, Prod.mk.injEq] at h
      exact ⟨by omega, by omega, by omega, h.1.symm, h.2.1.symm, h.2.2.1.symm, h.2.2.2.symm⟩
set_option maxHeartbeats 1000000 in
theorem rHead_some (b : Nat) (s : ByteArray) (w : World) (h : RdAt w b s) (hs : s.size ≤ 1000000) (a c : Nat) (sum rest : List UInt8) (hr : rdHead s.data.toList = some (a, c, sum, rest)) :
    Calls Try.prog 33 #[.pointer (some ⟨b, 0, none⟩)] w fun e w' => e = .returned (.agg #[.int .u64 (a : Nat), .int .u64 (c : Nat), .string ⟨sum.toArray⟩]) ∧ RdAt w' b ⟨rest.toArray⟩ ∧ w.grownBy w' (some b) := by
  have hl : s.data.toList.length = s.size := by simp
  obtain ⟨he, he2, h4, ha, hc, hsum, hrest⟩ := rdHead_inv _ _ _ _ _ hr
  clear hr
  have hle := vTake_le s.data.toList he
  have h1 := fun w (h : RdAt w b s) => rNum_ok b s w h hs he
  generalize vTake s.data.toList = r at *
  obtain ⟨n, k, e⟩ := r
  dsimp only at *
  obtain ⟨hk, hk1⟩ := hle
  rw [hl] at hk
  have hb := h.lt
  have HA := Lib.hid (fun o => h.alloc (w := w) (b := b) (s := s) o)
  have hsz : (s.extract k s.size).size ≤ 1000000 := by rw [ByteArray.size_extract]; omega
  have hdl : (s.extract k s.size).data.toList = s.data.toList.drop k := by rw [from_list]
  rw [← hdl] at he2 h4 hc hsum hrest
  have H1 := Lib.hid h1
  clear h1 hdl hl hk
  generalize s.extract k s.size = t at *
  have htl : t.data.toList.length = t.size := by simp
  have hle2 := vTake_le t.data.toList he2
  have h2 := fun w (h : RdAt w b t) => rNum_ok b t w h hsz he2
  generalize vTake t.data.toList = r at *
  obtain ⟨n2, k2, e2⟩ := r
  dsimp only at *
  obtain ⟨hk2, hk3⟩ := hle2
  rw [htl] at hk2
  have hus : (t.extract k2 t.size).size ≤ 1000000 := by rw [ByteArray.size_extract]; omega
  have hud : (t.extract k2 t.size).data.toList = t.data.toList.drop k2 := by rw [from_list]
  rw [← hud] at h4 hsum hrest
  have H2 := Lib.hid h2
  clear h2 hud htl hk2
  generalize t.extract k2 t.size = u at *
  have hul : u.data.toList.length = u.size := by simp
  rw [hul] at h4
  have h3 := fun w h => rCut_ok b 4 u w h hus h4
  rw [to_list, from_list, ← hsum, ← hrest] at h3
  have HC := Lib.hid h3
  subst ha hc
  generalize (⟨sum.toArray⟩ : ByteArray) = sm at *
  generalize (⟨rest.toArray⟩ : ByteArray) = rs at *
  clear h3 hsum hrest hul hsz hus he he2
  have hx0 : ∀ o, (w.alloc o).heap[w.heap.size]? = some o := fun o => (MapKept.heap_alloc w o).1
  have HX := Lib.hid hx0
  clear hx0 h hs h4
  go_enter Try.func33, Try.ntmps33
  go_wp2_with fail
  refine (H1.out _ (HA.out _)).mono ?_
  rintro e w1 ⟨rfl, r1, b1⟩
  have R1 := Lib.hid r1
  have B1 := Lib.hid b1
  clear r1 b1
  go_wp2_with fail
  refine (H2.out _ R1.out).mono ?_
  rintro e w2 ⟨rfl, r2, b2⟩
  have R2 := Lib.hid r2
  have B2 := Lib.hid (B1.out.trans b2)
  clear r2 b2 B1
  go_wp2_with fail
  refine (HC.out _ R2.out).mono ?_
  rintro e w3 ⟨rfl, r3, b3⟩
  have R3 := Lib.hid r3
  have B3 := Lib.hid (B2.out.trans b3)
  clear r3 b3 B2
  have hblk := (B3.out.block w.heap.size (by simp) (by simp; omega)).trans (HX.out _)
  have HB := Lib.hid hblk
  have q0 : w3.cell? ⟨w.heap.size, 0, none⟩ = some (.int .u64 0) := by rw [Lib.cell_of_heap hblk]; rfl
  have q1 : w3.cell? ⟨w.heap.size, 1, none⟩ = some (.int .u64 0) := by rw [Lib.cell_of_heap hblk]; rfl
  have q2 : w3.cell? ⟨w.heap.size, 2, none⟩ = some (.string ⟨#[]⟩) := by rw [Lib.cell_of_heap hblk]; rfl
  have z0 := Lib.frozen_of_heap hblk 0
  have z1 := Lib.frozen_of_heap hblk 1
  have z2 := Lib.frozen_of_heap hblk 2
  clear hblk
  have hne : b ≠ w.heap.size := by omega
  go_wp2_with fail
  refine bodyPost_cell1 (V := .agg #[.int .u64 (a : Nat), .int .u64 (c : Nat), .string sm]) rfl rfl ?_ rfl ?_
  · go_simp
  · exact ⟨rfl, ((R3.out.grown (gr_set _ _ 0 _) hne).grown (gr_set _ _ 1 _) hne).grown (gr_set _ _ 2 _) hne,
      gr_then (gr_then (gr_then ((World.grownBy_alloc w _ (some b)).trans B3.out) (gr_set _ _ 0 _) (Nat.le_refl _)) (gr_set _ _ 1 _) (Nat.le_refl _)) (gr_set _ _ 2 _) (Nat.le_refl _)⟩
end Go.Proofs.Ytlkpgefapcfdbaa
