/- keep: a frame that came too early is kept (printed by gen-lo-keep.py). -/
import Derived.Test.YtjgjhjecgdndjaaLoBs
import Derived.Test.YtjgjhjecgdndjaaLinkTick
namespace Go.Proofs.Ytjgjhjecgdndjaa
open Go.RowKit
set_option linter.unusedVariables false
set_option linter.unusedSimpArgs false
/-- what keep leaves: the row as it was, or with the frame in it -/
def KeepPost (bk : Nat) (ses : UInt64) (base next idle : Int) (x2 x3 ve : Value) (dead : Bool) (f : Frm4) (le : List Frm4) (w : World) (e : Ending) (w' : World) : Prop :=
  ∃ (r : Bool) (ve' : Value) (le' : List Frm4), e = .returned (.bool r) ∧ Box8 bk (.int .u64 ses.toNat) (.int .i64 base) x2 x3 (.int .i64 next) ve' (.int .i64 idle) (.bool dead) w' ∧ FrsN w' ve' le' ∧ (∀ y ∈ le', y ∈ le ∨ y = f) ∧ le'.length ≤ le.length + 1 ∧ SrcV w w' ve ve' ∧ w.grownBy w' (some bk)
theorem grown_belowK {W W' : World} (h : Below W.heap.size W W') (r : Option Nat) : W.grownBy W' r := ⟨h.os, h.tape, h.output, h.size, fun k hk _ => h.block k hk⟩
set_option maxRecDepth 20000 in
set_option maxHeartbeats 4000000 in
theorem keep_any (bk : Nat) (ses s2 : UInt64) (base next idle q a : Int) (x2 x3 : Value) (Ae : Option Addr) (ne ce : Nat) (dead : Bool) (d : ByteArray) (le : List Frm4) (w : World) (hx : Box8 bk (.int .u64 ses.toNat) (.int .i64 base) x2 x3 (.int .i64 next) (.slice Ae ne ce) (.int .i64 idle) (.bool dead) w) (he : FrsN w (.slice Ae ne ce) le) (hap : ∀ b, (Value.slice Ae ne ce).ownBlock = some b → b ≠ bk) (hl : le.length ≤ 1000) :
    Calls Try.prog 33 #[.pointer (some ⟨bk, 0, none⟩), .agg #[.int .u64 s2.toNat, .int .i64 q, .int .i64 a, .string d]] w (KeepPost bk ses base next idle x2 x3 (.slice Ae ne ce) dead (s2, q, 0, d) le w) := by
  obtain ⟨Ae', ce', e9, h2, h3⟩ := he.len
  cases e9
  have HE := Lib.hid he
  have q0 := World.alloc_heap_new w (.cells #[.int .u64 s2.toNat, .int .i64 q, .int .i64 0, .string d] 24)
  obtain ⟨wE, hwE⟩ : ∃ wE, wE = w.alloc (.cells #[.int .u64 s2.toNat, .int .i64 q, .int .i64 0, .string d] 24) := ⟨_, rfl⟩
  have hb0 : Below w.heap.size w wE := by rw [hwE]; exact (Below.refl _ _).alloc (Nat.le_refl _) _
  rw [← hwE] at q0
  have HWE := Lib.hid hwE.symm
  have HQ := Lib.hid q0
  have HB0 := Lib.hid hb0
  have HX0 := Lib.hid (hx.below hb0 hx.lt)
  have HE0 := Lib.hid (HE.out.below hb0 (Nat.le_refl _))
  have HLT := Lib.hid hx.lt
  clear hwE q0 hb0 hx he
  obtain ⟨n, hn⟩ : ∃ n, n = le.length := ⟨_, rfl⟩
  rw [← hn] at HX0 HE0 hap h2 ⊢
  have HN := Lib.hid hn.symm
  clear hn HE
  go_enter Try.func33, Try.ntmps33
  go_wp2_with fail
  rw [HWE.out]
  have HBd : Hid (Below w.heap.size w wE.drew) := HB0.out.drew
  have HQd : Hid (wE.drew.heap[w.heap.size]? = some (.cells #[.int .u64 s2.toNat, .int .i64 q, .int .i64 0, .string d] 24 (0, 0))) := HQ.out
  have HXd : Hid (Box8 bk (.int .u64 ses.toNat) (.int .i64 base) x2 x3 (.int .i64 next) (.slice Ae n ce) (.int .i64 idle) (.bool dead) wE.drew) := box_of_block (w' := wE.drew) HX0.out rfl
  have HEd : Hid (FrsN wE.drew (.slice Ae n ce) le) := HE0.out.below (Below.refl _ _).drew (Nat.le_refl _)
  clear HB0 HQ HX0 HE0 HWE
  refine wp_region_noPanic ?_
  refine wp_region_held_drew (S := fun w' => Below wE.drew.heap.size wE.drew w') (by kernel_rfl) (Below.refl _ _) (fun hHeld => ?_)
  generalize wE.drew = wd at *
  have B_wd : Hid (Below wd.heap.size wd wd) := Below.refl _ _
  have GX := Lib.hid (fun W (hW : Below wd.heap.size wd W) => HXd.out.below hW HXd.out.lt)
  have GQ := Lib.hid (fun W (hW : Below wd.heap.size wd W) => cells4 ((hW.block _ (Array.getElem?_eq_some_iff.1 HQd.out).1).trans HQd.out))
  refine wpAnyH_take (i := 0) (v := .pointer (some ⟨bk, 0, none⟩)) rfl (by kernel_rfl) (by kernel_rfl) (by kernel_rfl) (fun _ _ _ h => h) (Or.inl ⟨by kernel_rfl, ?_⟩) (by assumption) ?_
  · intro wz hSw
    go_simp
  try simp only [Act.put, List.getElem_toArray, List.getElem_cons_succ, List.getElem_cons_zero, List.setIfInBounds_toArray, List.set_cons_zero, List.set_cons_succ]
  refine wpAnyH_take (i := 1) (v := .pointer (some ⟨bk, 0, none⟩)) rfl (by kernel_rfl) (by kernel_rfl) (by kernel_rfl) (fun _ _ _ h => h) (Or.inl ⟨by kernel_rfl, ?_⟩) (by assumption) ?_
  · intro wz hSw
    go_simp
  try simp only [Act.put, List.getElem_toArray, List.getElem_cons_succ, List.getElem_cons_zero, List.setIfInBounds_toArray, List.set_cons_zero, List.set_cons_succ]
  refine wpAnyH_take (i := 2) (v := .pointer (some ⟨bk, 0, none⟩)) rfl (by kernel_rfl) (by kernel_rfl) (by kernel_rfl) (fun _ _ _ h => h) (Or.inl ⟨by kernel_rfl, ?_⟩) (by assumption) ?_
  · intro wz hSw
    go_simp
  try simp only [Act.put, List.getElem_toArray, List.getElem_cons_succ, List.getElem_cons_zero, List.setIfInBounds_toArray, List.set_cons_zero, List.set_cons_succ]
  refine wpAnyH_take (i := 3) (v := .pointer (some ⟨bk, 5, none⟩)) rfl (by kernel_rfl) (by kernel_rfl) (by kernel_rfl) (fun _ _ _ h => h) (Or.inl ⟨by kernel_rfl, ?_⟩) (by assumption) ?_
  · intro wz hSw
    go_simp
  try simp only [Act.put, List.getElem_toArray, List.getElem_cons_succ, List.getElem_cons_zero, List.setIfInBounds_toArray, List.set_cons_zero, List.set_cons_succ]
  refine wpAnyH_take (i := 4) (v := .slice Ae n ce) rfl (by kernel_rfl) (by kernel_rfl) (by kernel_rfl) (fun _ _ _ h => h) (Or.inl ⟨by kernel_rfl, ?_⟩) (by assumption) ?_
  · intro wz hSw
    obtain ⟨g0, g1, g2, g3, g4, g5, g6, g7, _, _⟩ := GX.out wz hSw
    go_simp
  try simp only [Act.put, List.getElem_toArray, List.getElem_cons_succ, List.getElem_cons_zero, List.setIfInBounds_toArray, List.set_cons_zero, List.set_cons_succ]
  refine wpAnyH_take (i := 5) (v := .pointer (some ⟨w.heap.size, 1, none⟩)) rfl (by kernel_rfl) (by kernel_rfl) (by kernel_rfl) (fun _ _ _ h => h) (Or.inl ⟨by kernel_rfl, ?_⟩) (by assumption) ?_
  · intro wz hSw
    go_simp
  try simp only [Act.put, List.getElem_toArray, List.getElem_cons_succ, List.getElem_cons_zero, List.setIfInBounds_toArray, List.set_cons_zero, List.set_cons_succ]
  refine wpAnyH_take (i := 6) (v := .int .i64 q) rfl (by kernel_rfl) (by kernel_rfl) (by kernel_rfl) (fun _ _ _ h => h) (Or.inl ⟨by kernel_rfl, ?_⟩) (by assumption) ?_
  · intro wz hSw
    obtain ⟨g0, g1, g2, g3, _⟩ := GQ.out wz hSw
    go_simp
  try simp only [Act.put, List.getElem_toArray, List.getElem_cons_succ, List.getElem_cons_zero, List.setIfInBounds_toArray, List.set_cons_zero, List.set_cons_succ]
  refine wpAnyH_ready (rs := [7]) (by kernel_rfl) (by simp) ?_
  refine AllReadyH.cons rfl (fun K hK => ?_) AllReadyH.nil
  go_simp
  go_at_call 51
  refine (bsF_any _ le q wd HEd.out.1 (by omega)).mono ?_
  rintro er x1 ⟨p, is, rfl, hpl, b1⟩
  have B_x1 : Hid (Below wd.heap.size wd x1) := b1
  clear b1
  go_wp2_with fail
  refine hK.out _ _ B_x1.out (fun hHeld => ?_)
  clear hK K
  try simp only [Act.put, List.getElem_toArray, List.getElem_cons_succ, List.getElem_cons_zero, List.setIfInBounds_toArray, List.set_cons_zero, List.set_cons_succ]
  refine wpAnyH_take (i := 8) (v := .tuple #[.int .i64 p, .bool is]) rfl (by kernel_rfl) (by kernel_rfl) (by kernel_rfl) (fun _ _ _ h => h) (Or.inl ⟨by kernel_rfl, ?_⟩) (by assumption) ?_
  · intro wz hSw
    go_simp
  try simp only [Act.put, List.getElem_toArray, List.getElem_cons_succ, List.getElem_cons_zero, List.setIfInBounds_toArray, List.set_cons_zero, List.set_cons_succ]
  refine wpAnyH_take (i := 9) (v := .int .i64 p) rfl (by kernel_rfl) (by kernel_rfl) (by kernel_rfl) (fun _ _ _ h => h) (Or.inl ⟨by kernel_rfl, ?_⟩) (by assumption) ?_
  · intro wz hSw
    go_simp
  try simp only [Act.put, List.getElem_toArray, List.getElem_cons_succ, List.getElem_cons_zero, List.setIfInBounds_toArray, List.set_cons_zero, List.set_cons_succ]
  refine wpAnyH_take (i := 10) (v := .bool is) rfl (by kernel_rfl) (by kernel_rfl) (by kernel_rfl) (fun _ _ _ h => h) (Or.inl ⟨by kernel_rfl, ?_⟩) (by assumption) ?_
  · intro wz hSw
    go_simp
  try simp only [Act.put, List.getElem_toArray, List.getElem_cons_succ, List.getElem_cons_zero, List.setIfInBounds_toArray, List.set_cons_zero, List.set_cons_succ]
  refine wpAnyH_take (i := 11) (v := .int .i64 p) rfl (by kernel_rfl) (by kernel_rfl) (by kernel_rfl) (fun _ _ _ h => h) (Or.inl ⟨by kernel_rfl, ?_⟩) (by assumption) ?_
  · intro wz hSw
    go_simp
  try simp only [Act.put, List.getElem_toArray, List.getElem_cons_succ, List.getElem_cons_zero, List.setIfInBounds_toArray, List.set_cons_zero, List.set_cons_succ]
  refine wpAnyH_take (i := 12) (v := .bool is) rfl (by kernel_rfl) (by kernel_rfl) (by kernel_rfl) (fun _ _ _ h => h) (Or.inl ⟨by kernel_rfl, ?_⟩) (by assumption) ?_
  · intro wz hSw
    go_simp
  refine wpAnyH_done (by kernel_rfl) ?_ _
  refine NoPanic.normal ?_
  have HB1 : Hid (Below w.heap.size w x1) := HBd.out.trans (B_x1.out.mono HBd.out.size)
  have HX1 := Lib.hid (GX.out x1 B_x1.out)
  have HQ1 := Lib.hid ((B_x1.out.block _ (Array.getElem?_eq_some_iff.1 HQd.out).1).trans HQd.out)
  have HE1 := Lib.hid (HEd.out.below B_x1.out (Nat.le_refl _))
  clear GX GQ HBd HQd HXd HEd B_x1 B_wd hHeld
  obtain ⟨c0, c1, c2, c3, cf⟩ := cells4 HQ1.out
  obtain ⟨g0, g1, g2, g3, g4, g5, g6, g7, gf, glt⟩ := HX1.out
  cases is with
  | true =>
    go_wp2_with fail
    go_ret
    exact ⟨false, _, le, rfl, HX1.out, HE1.out, fun y hy => .inl hy, by omega, SrcV.refl _ _ _, grown_belowK HB1.out _⟩
  | false =>
    go_wp2_with fail
    have HBy0 : Hid (Below w.heap.size w x1.drew) := HB1.out.drew
    have HQy0 : Hid (x1.drew.heap[w.heap.size]? = some (.cells #[.int .u64 s2.toNat, .int .i64 q, .int .i64 0, .string d] 24 (0, 0))) := HQ1.out
    have HXy0 : Hid (Box8 bk (.int .u64 ses.toNat) (.int .i64 base) x2 x3 (.int .i64 next) (.slice Ae n ce) (.int .i64 idle) (.bool dead) x1.drew) := box_of_block (w' := x1.drew) HX1.out rfl
    have HEy0 : Hid (FrsN x1.drew (.slice Ae n ce) le) := HE1.out.below (Below.refl _ _).drew (Nat.le_refl _)
    have hgt : w.heap.size < x1.drew.heap.size := (Array.getElem?_eq_some_iff.1 HQy0.out).1
    clear HB1 HQ1 HX1 HE1 c0 c1 c2 c3 cf g0 g1 g2 g3 g4 g5 g6 g7 gf glt
    refine wp_region_noPanic ?_
    refine wp_region_held_drew (S := fun W => W.heap[w.heap.size]? = some (.cells #[.int .u64 s2.toNat, .int .i64 q, .int .i64 0, .string d] 24 (0, 0))) (by kernel_rfl) HQy0.out (fun hHeld => ?_)
    generalize x1.drew = y0 at *
    refine wpAnyH_take (i := 0) (v := .pointer (some ⟨bk, 0, none⟩)) rfl (by kernel_rfl) (by kernel_rfl) (by kernel_rfl) (fun _ _ _ h => h) (Or.inl ⟨by kernel_rfl, ?_⟩) (by assumption) ?_
    · intro wz hSw
      go_simp
    try simp only [Act.put, List.getElem_toArray, List.getElem_cons_succ, List.getElem_cons_zero, List.setIfInBounds_toArray, List.set_cons_zero, List.set_cons_succ]
    refine wpAnyH_take (i := 1) (v := .pointer (some ⟨bk, 0, none⟩)) rfl (by kernel_rfl) (by kernel_rfl) (by kernel_rfl) (fun _ _ _ h => h) (Or.inl ⟨by kernel_rfl, ?_⟩) (by assumption) ?_
    · intro wz hSw
      go_simp
    try simp only [Act.put, List.getElem_toArray, List.getElem_cons_succ, List.getElem_cons_zero, List.setIfInBounds_toArray, List.set_cons_zero, List.set_cons_succ]
    refine wpAnyH_take (i := 2) (v := .pointer (some ⟨bk, 0, none⟩)) rfl (by kernel_rfl) (by kernel_rfl) (by kernel_rfl) (fun _ _ _ h => h) (Or.inl ⟨by kernel_rfl, ?_⟩) (by assumption) ?_
    · intro wz hSw
      go_simp
    try simp only [Act.put, List.getElem_toArray, List.getElem_cons_succ, List.getElem_cons_zero, List.setIfInBounds_toArray, List.set_cons_zero, List.set_cons_succ]
    refine wpAnyH_take (i := 3) (v := .pointer (some ⟨bk, 0, none⟩)) rfl (by kernel_rfl) (by kernel_rfl) (by kernel_rfl) (fun _ _ _ h => h) (Or.inl ⟨by kernel_rfl, ?_⟩) (by assumption) ?_
    · intro wz hSw
      go_simp
    try simp only [Act.put, List.getElem_toArray, List.getElem_cons_succ, List.getElem_cons_zero, List.setIfInBounds_toArray, List.set_cons_zero, List.set_cons_succ]
    refine wpAnyH_take (i := 4) (v := .pointer (some ⟨bk, 5, none⟩)) rfl (by kernel_rfl) (by kernel_rfl) (by kernel_rfl) (fun _ _ _ h => h) (Or.inl ⟨by kernel_rfl, ?_⟩) (by assumption) ?_
    · intro wz hSw
      go_simp
    try simp only [Act.put, List.getElem_toArray, List.getElem_cons_succ, List.getElem_cons_zero, List.setIfInBounds_toArray, List.set_cons_zero, List.set_cons_succ]
    refine wpAnyH_take (i := 7) (v := .int .i64 p) rfl (by kernel_rfl) (by kernel_rfl) (by kernel_rfl) (fun _ _ _ h => h) (Or.inl ⟨by kernel_rfl, ?_⟩) (by assumption) ?_
    · intro wz hSw
      go_simp
    try simp only [Act.put, List.getElem_toArray, List.getElem_cons_succ, List.getElem_cons_zero, List.setIfInBounds_toArray, List.set_cons_zero, List.set_cons_succ]
    refine wpAnyH_take (i := 8) (v := .agg #[.int .u64 s2.toNat, .int .i64 q, .int .i64 0, .string d]) rfl (by kernel_rfl) (by kernel_rfl) (by kernel_rfl) (fun _ _ _ h => h) (Or.inl ⟨by kernel_rfl, ?_⟩) (by assumption) ?_
    · intro wz hSw
      have hh := hSw
      obtain ⟨g0, g1, g2, g3, _⟩ := cells4 hh
      go_simp
    try simp only [Act.put, List.getElem_toArray, List.getElem_cons_succ, List.getElem_cons_zero, List.setIfInBounds_toArray, List.set_cons_zero, List.set_cons_succ]
    refine wpAnyH_ready (rs := [5, 9]) (by kernel_rfl) (by simp) ?_
    refine AllReadyH.cons rfl (fun K hK => ?_) (AllReadyH.cons rfl (fun K hK => ?_) AllReadyH.nil)
    · have g5 := HXy0.out.c5
      go_simp
      refine hK.out _ _ HQy0.out (fun hHeld => ?_)
      clear hK K g5
      try simp only [Act.put, List.getElem_toArray, List.getElem_cons_succ, List.getElem_cons_zero, List.setIfInBounds_toArray, List.set_cons_zero, List.set_cons_succ]
      refine wpAnyH_ready (rs := [6, 9]) (by kernel_rfl) (by simp) ?_
      refine AllReadyH.cons rfl (fun K hK => ?_) (AllReadyH.cons rfl (fun K hK => ?_) AllReadyH.nil)
      · have HC := Lib.hid (cloneF_any _ le y0 HEy0.out (by omega))
        go_simp
        go_at_call 55
        refine HC.out.mono ?_
        rintro er y1 ⟨vc, rfl, o1, b1⟩
        have hgw : w.heap.size < y0.heap.size := (Array.getElem?_eq_some_iff.1 HQy0.out).1
        have HQy1 : Hid (y1.heap[w.heap.size]? = some (.cells #[.int .u64 s2.toNat, .int .i64 q, .int .i64 0, .string d] 24 (0, 0))) := (b1.block _ hgw).trans HQy0.out
        have HBy1 := Lib.hid (HBy0.out.trans (b1.mono HBy0.out.size))
        have HXy1 := Lib.hid (HXy0.out.below b1 HXy0.out.lt)
        have HOy1 := Lib.hid o1
        have hbase : w.heap.size < y0.heap.size ∧ y0.heap.size ≤ y1.heap.size := ⟨hgw, b1.size⟩
        clear o1 b1 HC HBy0 HXy0 HQy0 HEy0 hgw
        go_wp2_with fail
        refine hK.out _ _ HQy1.out (fun hHeld => ?_)
        clear hK K
        try simp only [Act.put, List.getElem_toArray, List.getElem_cons_succ, List.getElem_cons_zero, List.setIfInBounds_toArray, List.set_cons_zero, List.set_cons_succ]
        refine wpAnyH_ready (rs := [9]) (by kernel_rfl) (by simp) ?_
        refine AllReadyH.cons rfl (fun K hK => ?_) AllReadyH.nil
        go_simp
        go_wp2_with fail
        have hgw : w.heap.size < y1.heap.size := (Array.getElem?_eq_some_iff.1 HQy1.out).1
        have HQy2 : Hid ((y1.alloc (.cells #[.int .u64 s2.toNat, .int .i64 q, .int .i64 0, .string d] 24)).heap[w.heap.size]? = some (.cells #[.int .u64 s2.toNat, .int .i64 q, .int .i64 0, .string d] 24 (0, 0))) := (Below.heap_alloc _ _ _ hgw).trans HQy1.out
        refine hK.out _ _ HQy2.out (fun hHeld => ?_)
        clear hK K
        try simp only [Act.put, List.getElem_toArray, List.getElem_cons_succ, List.getElem_cons_zero, List.setIfInBounds_toArray, List.set_cons_zero, List.set_cons_succ]
        have hb : Below y1.heap.size y1 (y1.alloc (.cells #[.int .u64 s2.toNat, .int .i64 q, .int .i64 0, .string d] 24)) := (Below.refl _ _).alloc (Nat.le_refl _) _
        have HBy2 := Lib.hid (HBy1.out.trans (hb.mono HBy1.out.size))
        have hszy2 := hb.size
        have HXy2 := Lib.hid (HXy1.out.below hb HXy1.out.lt)
        have HVy2 : Hid ((y1.alloc (.cells #[.int .u64 s2.toNat, .int .i64 q, .int .i64 0, .string d] 24)).heap[y1.heap.size]? = some (.cells #[.int .u64 s2.toNat, .int .i64 q, .int .i64 0, .string d] 24 (0, 0))) := World.alloc_heap_new _ _
        have HOy2 := Lib.hid (HOy1.out.alloc (.cells #[.int .u64 s2.toNat, .int .i64 q, .int .i64 0, .string d] 24))
        have hne : vc.ownBlock ≠ some y1.heap.size := fun e => by have := (HOy1.out.lt _ e).2; omega
        clear HOy1
        clear hb HBy1 HXy1 HQy1 hgw
        generalize y1.alloc (.cells #[.int .u64 s2.toNat, .int .i64 q, .int .i64 0, .string d] 24) = y2 at *
        refine wpAnyH_ready (rs := [10]) (by kernel_rfl) (by simp) ?_
        refine AllReadyH.cons rfl (fun K hK => ?_) AllReadyH.nil
        have hbw : bk < w.heap.size := HLT.out
        have HI := Lib.hid (insert_own y0.heap.size le.length p y1.heap.size 1 vc (frC le) [.int .u64 s2.toNat, .int .i64 q, .int .i64 0, .string d] y2 hpl (by omega) HOy2.out (by have := hbase.2; omega) HVy2.out hne rfl (frC_one le) (fun u hu => by simp at hu; rcases hu with rfl | rfl | rfl | rfl <;> rfl))
        go_simp
        go_at_call 54
        refine HI.out.mono ?_
        rintro er z1 ⟨v', rfl, o2, g2⟩
        obtain ⟨gz, cz, rfl⟩ := ownsRow_succ o2
        have hob : ∀ b, vc.ownBlock = some b → y0.heap.size ≤ b := fun b hb => (HOy2.out.lt b hb).1
        have HXz := Lib.hid (box_of_block HXy2.out (g2.block bk HXy2.out.lt (fun e => by have := hob bk e.symm; omega)))
        have HQz : Hid (z1.heap[w.heap.size]? = some (.cells #[.int .u64 s2.toNat, .int .i64 q, .int .i64 0, .string d] 24 (0, 0))) := (g2.block _ (Array.getElem?_eq_some_iff.1 HQy2.out).1 (fun e => by have := hob _ e.symm; omega)).trans HQy2.out
        have HBz : Hid (Below w.heap.size w z1) := HBy2.out.grown g2 HBy2.out.size (fun k hk => by have := hob k hk; omega)
        have HOz := Lib.hid o2
        clear o2 g2 hob HI HBy2 HXy2 HQy2 HOy2 HVy2
        go_wp2_with fail
        refine hK.out _ _ HQz.out (fun hHeld => ?_)
        clear hK K
        try simp only [Act.put, List.getElem_toArray, List.getElem_cons_succ, List.getElem_cons_zero, List.setIfInBounds_toArray, List.set_cons_zero, List.set_cons_succ]
        refine wpAnyH_take (i := 11) (v := .pointer (some ⟨bk, 0, none⟩)) rfl (by kernel_rfl) (by kernel_rfl) (by kernel_rfl) (fun _ _ _ h => h) (Or.inl ⟨by kernel_rfl, ?_⟩) (by assumption) ?_
        · intro wz hSw
          go_simp
        try simp only [Act.put, List.getElem_toArray, List.getElem_cons_succ, List.getElem_cons_zero, List.setIfInBounds_toArray, List.set_cons_zero, List.set_cons_succ]
        refine wpAnyH_take (i := 12) (v := .pointer (some ⟨bk, 0, none⟩)) rfl (by kernel_rfl) (by kernel_rfl) (by kernel_rfl) (fun _ _ _ h => h) (Or.inl ⟨by kernel_rfl, ?_⟩) (by assumption) ?_
        · intro wz hSw
          go_simp
        try simp only [Act.put, List.getElem_toArray, List.getElem_cons_succ, List.getElem_cons_zero, List.setIfInBounds_toArray, List.set_cons_zero, List.set_cons_succ]
        refine wpAnyH_take (i := 13) (v := .pointer (some ⟨bk, 5, none⟩)) rfl (by kernel_rfl) (by kernel_rfl) (by kernel_rfl) (fun _ _ _ h => h) (Or.inl ⟨by kernel_rfl, ?_⟩) (by assumption) ?_
        · intro wz hSw
          go_simp
        try simp only [Act.put, List.getElem_toArray, List.getElem_cons_succ, List.getElem_cons_zero, List.setIfInBounds_toArray, List.set_cons_zero, List.set_cons_succ]
        refine wpAnyH_ready (rs := [14]) (by kernel_rfl) (by simp) ?_
        refine AllReadyH.cons rfl (fun K hK => ?_) AllReadyH.nil
        have z5 := HXz.out.c5
        have zf := HXz.out.f 5
        have HQs : Hid ((z1.setCell ⟨bk, 5, none⟩ (.slice (some ⟨gz, 0, none⟩) (le.length + 1) cz)).heap[w.heap.size]? = some (.cells #[.int .u64 s2.toNat, .int .i64 q, .int .i64 0, .string d] 24 (0, 0))) := (Below.heap_setCell _ _ _ _ (by dsimp only; omega)).trans HQz.out
        have HXs := Lib.hid (HXz.out.set5 (.slice (some ⟨gz, 0, none⟩) (le.length + 1) cz))
        have HOs := Lib.hid (ownsRow_setCell_below HOz.out (a := ⟨bk, 5, none⟩) (by dsimp only; omega) (.slice (some ⟨gz, 0, none⟩) (le.length + 1) cz))
        have HGs : Hid (w.grownBy (z1.setCell ⟨bk, 5, none⟩ (.slice (some ⟨gz, 0, none⟩) (le.length + 1) cz)) (some bk)) := ⟨HBz.out.os, HBz.out.tape, HBz.out.output, by rw [World.size_setCell]; exact HBz.out.size, fun k hk hne => (Below.heap_setCell _ _ _ _ (by dsimp only; exact fun e => hne (by rw [e]))).trans (HBz.out.block k hk)⟩
        go_simp
        refine hK.out _ _ HQs.out (fun hHeld => ?_)
        clear hK K z5 zf HQz HXz HOz HBz
        generalize z1.setCell ⟨bk, 5, none⟩ (.slice (some ⟨gz, 0, none⟩) (le.length + 1) cz) = z2 at *
        refine wpAnyH_done (by kernel_rfl) ?_ _
        refine NoPanic.normal ?_
        have HFr : Hid (FrsN z2 (.slice (some ⟨gz, 0, none⟩) (le.length + 1) cz) (le.take p ++ [(s2, q, 0, d)] ++ le.drop p)) := FrsN.of_owns (B := y0.heap.size) (by
          have h := HOs.out
          rw [frC_take, frC_drop] at h
          have e1 : (le.take p ++ [(s2, q, 0, d)] ++ le.drop p).length = le.length + 1 := by simp; omega
          have e2 : frC (le.take p ++ [(s2, q, 0, d)] ++ le.drop p) = frC (le.take p) ++ [.int .u64 s2.toNat, .int .i64 q, .int .i64 0, .string d] ++ frC (le.drop p) := by rw [frC_append, frC_append]; rfl
          rw [e1, e2]
          exact h)
        have HSz : Hid (SrcV w z2 (.slice Ae n ce) (.slice (some ⟨gz, 0, none⟩) (le.length + 1) cz)) := SrcV.owns HOs.out (by omega) _ (Nat.le_refl _)
        clear HOs
        go_wp2_with fail
        go_ret
        exact ⟨true, _, _, rfl, HXs.out, HFr.out, fun y hy => by
          simp only [List.mem_append, List.mem_singleton] at hy
          rcases hy with (hy | hy) | hy
          · exact .inl (List.mem_of_mem_take hy)
          · exact .inr hy
          · exact .inl (List.mem_of_mem_drop hy), by simp; omega, HSz.out, HGs.out⟩
      · go_simp
        go_wp2_with fail
        have hgw : w.heap.size < y0.heap.size := (Array.getElem?_eq_some_iff.1 HQy0.out).1
        have HQy1 : Hid ((y0.alloc (.cells #[.int .u64 s2.toNat, .int .i64 q, .int .i64 0, .string d] 24)).heap[w.heap.size]? = some (.cells #[.int .u64 s2.toNat, .int .i64 q, .int .i64 0, .string d] 24 (0, 0))) := (Below.heap_alloc _ _ _ hgw).trans HQy0.out
        refine hK.out _ _ HQy1.out (fun hHeld => ?_)
        clear hK K
        try simp only [Act.put, List.getElem_toArray, List.getElem_cons_succ, List.getElem_cons_zero, List.setIfInBounds_toArray, List.set_cons_zero, List.set_cons_succ]
        have hb : Below y0.heap.size y0 (y0.alloc (.cells #[.int .u64 s2.toNat, .int .i64 q, .int .i64 0, .string d] 24)) := (Below.refl _ _).alloc (Nat.le_refl _) _
        have HBy1 := Lib.hid (HBy0.out.trans (hb.mono HBy0.out.size))
        have hszy1 := hb.size
        have HXy1 := Lib.hid (HXy0.out.below hb HXy0.out.lt)
        have HVy1 : Hid ((y0.alloc (.cells #[.int .u64 s2.toNat, .int .i64 q, .int .i64 0, .string d] 24)).heap[y0.heap.size]? = some (.cells #[.int .u64 s2.toNat, .int .i64 q, .int .i64 0, .string d] 24 (0, 0))) := World.alloc_heap_new _ _
        have HEy1 := Lib.hid (HEy0.out.below hb (Nat.le_refl _))
        clear HEy0
        clear hb HBy0 HXy0 HQy0 hgw
        generalize y0.alloc (.cells #[.int .u64 s2.toNat, .int .i64 q, .int .i64 0, .string d] 24) = y1 at *
        refine wpAnyH_ready (rs := [6]) (by kernel_rfl) (by simp) ?_
        refine AllReadyH.cons rfl (fun K hK => ?_) AllReadyH.nil
        have HC := Lib.hid (cloneF_any _ le y1 HEy1.out (by omega))
        go_simp
        go_at_call 55
        refine HC.out.mono ?_
        rintro er y2 ⟨vc, rfl, o1, b1⟩
        have hgw : w.heap.size < y1.heap.size := (Array.getElem?_eq_some_iff.1 HQy1.out).1
        have HQy2 : Hid (y2.heap[w.heap.size]? = some (.cells #[.int .u64 s2.toNat, .int .i64 q, .int .i64 0, .string d] 24 (0, 0))) := (b1.block _ hgw).trans HQy1.out
        have HBy2 := Lib.hid (HBy1.out.trans (b1.mono HBy1.out.size))
        have HXy2 := Lib.hid (HXy1.out.below b1 HXy1.out.lt)
        have HOy2 := Lib.hid o1
        have hbase : w.heap.size < y1.heap.size ∧ y1.heap.size ≤ y2.heap.size := ⟨hgw, b1.size⟩
        have hvl := (Array.getElem?_eq_some_iff.1 HVy1.out).1
        have HVy2 := Lib.hid ((b1.block _ hvl).trans HVy1.out)
        have hne : vc.ownBlock ≠ some y0.heap.size := fun e => by have := (HOy2.out.lt _ e).1; omega
        clear HVy1 hvl
        clear o1 b1 HC HBy1 HXy1 HQy1 HEy1 hgw
        go_wp2_with fail
        refine hK.out _ _ HQy2.out (fun hHeld => ?_)
        clear hK K
        try simp only [Act.put, List.getElem_toArray, List.getElem_cons_succ, List.getElem_cons_zero, List.setIfInBounds_toArray, List.set_cons_zero, List.set_cons_succ]
        refine wpAnyH_ready (rs := [10]) (by kernel_rfl) (by simp) ?_
        refine AllReadyH.cons rfl (fun K hK => ?_) AllReadyH.nil
        have hbw : bk < w.heap.size := HLT.out
        have HI := Lib.hid (insert_own y1.heap.size le.length p y0.heap.size 1 vc (frC le) [.int .u64 s2.toNat, .int .i64 q, .int .i64 0, .string d] y2 hpl (by omega) HOy2.out (by have := hbase.2; omega) HVy2.out hne rfl (frC_one le) (fun u hu => by simp at hu; rcases hu with rfl | rfl | rfl | rfl <;> rfl))
        go_simp
        go_at_call 54
        refine HI.out.mono ?_
        rintro er z1 ⟨v', rfl, o2, g2⟩
        obtain ⟨gz, cz, rfl⟩ := ownsRow_succ o2
        have hob : ∀ b, vc.ownBlock = some b → y1.heap.size ≤ b := fun b hb => (HOy2.out.lt b hb).1
        have HXz := Lib.hid (box_of_block HXy2.out (g2.block bk HXy2.out.lt (fun e => by have := hob bk e.symm; omega)))
        have HQz : Hid (z1.heap[w.heap.size]? = some (.cells #[.int .u64 s2.toNat, .int .i64 q, .int .i64 0, .string d] 24 (0, 0))) := (g2.block _ (Array.getElem?_eq_some_iff.1 HQy2.out).1 (fun e => by have := hob _ e.symm; omega)).trans HQy2.out
        have HBz : Hid (Below w.heap.size w z1) := HBy2.out.grown g2 HBy2.out.size (fun k hk => by have := hob k hk; omega)
        have HOz := Lib.hid o2
        clear o2 g2 hob HI HBy2 HXy2 HQy2 HOy2 HVy2
        go_wp2_with fail
        refine hK.out _ _ HQz.out (fun hHeld => ?_)
        clear hK K
        try simp only [Act.put, List.getElem_toArray, List.getElem_cons_succ, List.getElem_cons_zero, List.setIfInBounds_toArray, List.set_cons_zero, List.set_cons_succ]
        refine wpAnyH_take (i := 11) (v := .pointer (some ⟨bk, 0, none⟩)) rfl (by kernel_rfl) (by kernel_rfl) (by kernel_rfl) (fun _ _ _ h => h) (Or.inl ⟨by kernel_rfl, ?_⟩) (by assumption) ?_
        · intro wz hSw
          go_simp
        try simp only [Act.put, List.getElem_toArray, List.getElem_cons_succ, List.getElem_cons_zero, List.setIfInBounds_toArray, List.set_cons_zero, List.set_cons_succ]
        refine wpAnyH_take (i := 12) (v := .pointer (some ⟨bk, 0, none⟩)) rfl (by kernel_rfl) (by kernel_rfl) (by kernel_rfl) (fun _ _ _ h => h) (Or.inl ⟨by kernel_rfl, ?_⟩) (by assumption) ?_
        · intro wz hSw
          go_simp
        try simp only [Act.put, List.getElem_toArray, List.getElem_cons_succ, List.getElem_cons_zero, List.setIfInBounds_toArray, List.set_cons_zero, List.set_cons_succ]
        refine wpAnyH_take (i := 13) (v := .pointer (some ⟨bk, 5, none⟩)) rfl (by kernel_rfl) (by kernel_rfl) (by kernel_rfl) (fun _ _ _ h => h) (Or.inl ⟨by kernel_rfl, ?_⟩) (by assumption) ?_
        · intro wz hSw
          go_simp
        try simp only [Act.put, List.getElem_toArray, List.getElem_cons_succ, List.getElem_cons_zero, List.setIfInBounds_toArray, List.set_cons_zero, List.set_cons_succ]
        refine wpAnyH_ready (rs := [14]) (by kernel_rfl) (by simp) ?_
        refine AllReadyH.cons rfl (fun K hK => ?_) AllReadyH.nil
        have z5 := HXz.out.c5
        have zf := HXz.out.f 5
        have HQs : Hid ((z1.setCell ⟨bk, 5, none⟩ (.slice (some ⟨gz, 0, none⟩) (le.length + 1) cz)).heap[w.heap.size]? = some (.cells #[.int .u64 s2.toNat, .int .i64 q, .int .i64 0, .string d] 24 (0, 0))) := (Below.heap_setCell _ _ _ _ (by dsimp only; omega)).trans HQz.out
        have HXs := Lib.hid (HXz.out.set5 (.slice (some ⟨gz, 0, none⟩) (le.length + 1) cz))
        have HOs := Lib.hid (ownsRow_setCell_below HOz.out (a := ⟨bk, 5, none⟩) (by dsimp only; omega) (.slice (some ⟨gz, 0, none⟩) (le.length + 1) cz))
        have HGs : Hid (w.grownBy (z1.setCell ⟨bk, 5, none⟩ (.slice (some ⟨gz, 0, none⟩) (le.length + 1) cz)) (some bk)) := ⟨HBz.out.os, HBz.out.tape, HBz.out.output, by rw [World.size_setCell]; exact HBz.out.size, fun k hk hne => (Below.heap_setCell _ _ _ _ (by dsimp only; exact fun e => hne (by rw [e]))).trans (HBz.out.block k hk)⟩
        go_simp
        refine hK.out _ _ HQs.out (fun hHeld => ?_)
        clear hK K z5 zf HQz HXz HOz HBz
        generalize z1.setCell ⟨bk, 5, none⟩ (.slice (some ⟨gz, 0, none⟩) (le.length + 1) cz) = z2 at *
        refine wpAnyH_done (by kernel_rfl) ?_ _
        refine NoPanic.normal ?_
        have HFr : Hid (FrsN z2 (.slice (some ⟨gz, 0, none⟩) (le.length + 1) cz) (le.take p ++ [(s2, q, 0, d)] ++ le.drop p)) := FrsN.of_owns (B := y1.heap.size) (by
          have h := HOs.out
          rw [frC_take, frC_drop] at h
          have e1 : (le.take p ++ [(s2, q, 0, d)] ++ le.drop p).length = le.length + 1 := by simp; omega
          have e2 : frC (le.take p ++ [(s2, q, 0, d)] ++ le.drop p) = frC (le.take p) ++ [.int .u64 s2.toNat, .int .i64 q, .int .i64 0, .string d] ++ frC (le.drop p) := by rw [frC_append, frC_append]; rfl
          rw [e1, e2]
          exact h)
        have HSz : Hid (SrcV w z2 (.slice Ae n ce) (.slice (some ⟨gz, 0, none⟩) (le.length + 1) cz)) := SrcV.owns HOs.out (by omega) _ (Nat.le_refl _)
        clear HOs
        go_wp2_with fail
        go_ret
        exact ⟨true, _, _, rfl, HXs.out, HFr.out, fun y hy => by
          simp only [List.mem_append, List.mem_singleton] at hy
          rcases hy with (hy | hy) | hy
          · exact .inl (List.mem_of_mem_take hy)
          · exact .inr hy
          · exact .inl (List.mem_of_mem_drop hy), by simp; omega, HSz.out, HGs.out⟩
    · go_simp
      go_wp2_with fail
      have hgw : w.heap.size < y0.heap.size := (Array.getElem?_eq_some_iff.1 HQy0.out).1
      have HQy1 : Hid ((y0.alloc (.cells #[.int .u64 s2.toNat, .int .i64 q, .int .i64 0, .string d] 24)).heap[w.heap.size]? = some (.cells #[.int .u64 s2.toNat, .int .i64 q, .int .i64 0, .string d] 24 (0, 0))) := (Below.heap_alloc _ _ _ hgw).trans HQy0.out
      refine hK.out _ _ HQy1.out (fun hHeld => ?_)
      clear hK K
      try simp only [Act.put, List.getElem_toArray, List.getElem_cons_succ, List.getElem_cons_zero, List.setIfInBounds_toArray, List.set_cons_zero, List.set_cons_succ]
      have hb : Below y0.heap.size y0 (y0.alloc (.cells #[.int .u64 s2.toNat, .int .i64 q, .int .i64 0, .string d] 24)) := (Below.refl _ _).alloc (Nat.le_refl _) _
      have HBy1 := Lib.hid (HBy0.out.trans (hb.mono HBy0.out.size))
      have hszy1 := hb.size
      have HXy1 := Lib.hid (HXy0.out.below hb HXy0.out.lt)
      have HVy1 : Hid ((y0.alloc (.cells #[.int .u64 s2.toNat, .int .i64 q, .int .i64 0, .string d] 24)).heap[y0.heap.size]? = some (.cells #[.int .u64 s2.toNat, .int .i64 q, .int .i64 0, .string d] 24 (0, 0))) := World.alloc_heap_new _ _
      have HEy1 := Lib.hid (HEy0.out.below hb (Nat.le_refl _))
      clear HEy0
      clear hb HBy0 HXy0 HQy0 hgw
      generalize y0.alloc (.cells #[.int .u64 s2.toNat, .int .i64 q, .int .i64 0, .string d] 24) = y1 at *
      refine wpAnyH_ready (rs := [5]) (by kernel_rfl) (by simp) ?_
      refine AllReadyH.cons rfl (fun K hK => ?_) AllReadyH.nil
      have g5 := HXy1.out.c5
      go_simp
      refine hK.out _ _ HQy1.out (fun hHeld => ?_)
      clear hK K g5
      try simp only [Act.put, List.getElem_toArray, List.getElem_cons_succ, List.getElem_cons_zero, List.setIfInBounds_toArray, List.set_cons_zero, List.set_cons_succ]
      refine wpAnyH_ready (rs := [6]) (by kernel_rfl) (by simp) ?_
      refine AllReadyH.cons rfl (fun K hK => ?_) AllReadyH.nil
      have HC := Lib.hid (cloneF_any _ le y1 HEy1.out (by omega))
      go_simp
      go_at_call 55
      refine HC.out.mono ?_
      rintro er y2 ⟨vc, rfl, o1, b1⟩
      have hgw : w.heap.size < y1.heap.size := (Array.getElem?_eq_some_iff.1 HQy1.out).1
      have HQy2 : Hid (y2.heap[w.heap.size]? = some (.cells #[.int .u64 s2.toNat, .int .i64 q, .int .i64 0, .string d] 24 (0, 0))) := (b1.block _ hgw).trans HQy1.out
      have HBy2 := Lib.hid (HBy1.out.trans (b1.mono HBy1.out.size))
      have HXy2 := Lib.hid (HXy1.out.below b1 HXy1.out.lt)
      have HOy2 := Lib.hid o1
      have hbase : w.heap.size < y1.heap.size ∧ y1.heap.size ≤ y2.heap.size := ⟨hgw, b1.size⟩
      have hvl := (Array.getElem?_eq_some_iff.1 HVy1.out).1
      have HVy2 := Lib.hid ((b1.block _ hvl).trans HVy1.out)
      have hne : vc.ownBlock ≠ some y0.heap.size := fun e => by have := (HOy2.out.lt _ e).1; omega
      clear HVy1 hvl
      clear o1 b1 HC HBy1 HXy1 HQy1 HEy1 hgw
      go_wp2_with fail
      refine hK.out _ _ HQy2.out (fun hHeld => ?_)
      clear hK K
      try simp only [Act.put, List.getElem_toArray, List.getElem_cons_succ, List.getElem_cons_zero, List.setIfInBounds_toArray, List.set_cons_zero, List.set_cons_succ]
      refine wpAnyH_ready (rs := [10]) (by kernel_rfl) (by simp) ?_
      refine AllReadyH.cons rfl (fun K hK => ?_) AllReadyH.nil
      have hbw : bk < w.heap.size := HLT.out
      have HI := Lib.hid (insert_own y1.heap.size le.length p y0.heap.size 1 vc (frC le) [.int .u64 s2.toNat, .int .i64 q, .int .i64 0, .string d] y2 hpl (by omega) HOy2.out (by have := hbase.2; omega) HVy2.out hne rfl (frC_one le) (fun u hu => by simp at hu; rcases hu with rfl | rfl | rfl | rfl <;> rfl))
      go_simp
      go_at_call 54
      refine HI.out.mono ?_
      rintro er z1 ⟨v', rfl, o2, g2⟩
      obtain ⟨gz, cz, rfl⟩ := ownsRow_succ o2
      have hob : ∀ b, vc.ownBlock = some b → y1.heap.size ≤ b := fun b hb => (HOy2.out.lt b hb).1
      have HXz := Lib.hid (box_of_block HXy2.out (g2.block bk HXy2.out.lt (fun e => by have := hob bk e.symm; omega)))
      have HQz : Hid (z1.heap[w.heap.size]? = some (.cells #[.int .u64 s2.toNat, .int .i64 q, .int .i64 0, .string d] 24 (0, 0))) := (g2.block _ (Array.getElem?_eq_some_iff.1 HQy2.out).1 (fun e => by have := hob _ e.symm; omega)).trans HQy2.out
      have HBz : Hid (Below w.heap.size w z1) := HBy2.out.grown g2 HBy2.out.size (fun k hk => by have := hob k hk; omega)
      have HOz := Lib.hid o2
      clear o2 g2 hob HI HBy2 HXy2 HQy2 HOy2 HVy2
      go_wp2_with fail
      refine hK.out _ _ HQz.out (fun hHeld => ?_)
      clear hK K
      try simp only [Act.put, List.getElem_toArray, List.getElem_cons_succ, List.getElem_cons_zero, List.setIfInBounds_toArray, List.set_cons_zero, List.set_cons_succ]
      refine wpAnyH_take (i := 11) (v := .pointer (some ⟨bk, 0, none⟩)) rfl (by kernel_rfl) (by kernel_rfl) (by kernel_rfl) (fun _ _ _ h => h) (Or.inl ⟨by kernel_rfl, ?_⟩) (by assumption) ?_
      · intro wz hSw
        go_simp
      try simp only [Act.put, List.getElem_toArray, List.getElem_cons_succ, List.getElem_cons_zero, List.setIfInBounds_toArray, List.set_cons_zero, List.set_cons_succ]
      refine wpAnyH_take (i := 12) (v := .pointer (some ⟨bk, 0, none⟩)) rfl (by kernel_rfl) (by kernel_rfl) (by kernel_rfl) (fun _ _ _ h => h) (Or.inl ⟨by kernel_rfl, ?_⟩) (by assumption) ?_
      · intro wz hSw
        go_simp
      try simp only [Act.put, List.getElem_toArray, List.getElem_cons_succ, List.getElem_cons_zero, List.setIfInBounds_toArray, List.set_cons_zero, List.set_cons_succ]
      refine wpAnyH_take (i := 13) (v := .pointer (some ⟨bk, 5, none⟩)) rfl (by kernel_rfl) (by kernel_rfl) (by kernel_rfl) (fun _ _ _ h => h) (Or.inl ⟨by kernel_rfl, ?_⟩) (by assumption) ?_
      · intro wz hSw
        go_simp
      try simp only [Act.put, List.getElem_toArray, List.getElem_cons_succ, List.getElem_cons_zero, List.setIfInBounds_toArray, List.set_cons_zero, List.set_cons_succ]
      refine wpAnyH_ready (rs := [14]) (by kernel_rfl) (by simp) ?_
      refine AllReadyH.cons rfl (fun K hK => ?_) AllReadyH.nil
      have z5 := HXz.out.c5
      have zf := HXz.out.f 5
      have HQs : Hid ((z1.setCell ⟨bk, 5, none⟩ (.slice (some ⟨gz, 0, none⟩) (le.length + 1) cz)).heap[w.heap.size]? = some (.cells #[.int .u64 s2.toNat, .int .i64 q, .int .i64 0, .string d] 24 (0, 0))) := (Below.heap_setCell _ _ _ _ (by dsimp only; omega)).trans HQz.out
      have HXs := Lib.hid (HXz.out.set5 (.slice (some ⟨gz, 0, none⟩) (le.length + 1) cz))
      have HOs := Lib.hid (ownsRow_setCell_below HOz.out (a := ⟨bk, 5, none⟩) (by dsimp only; omega) (.slice (some ⟨gz, 0, none⟩) (le.length + 1) cz))
      have HGs : Hid (w.grownBy (z1.setCell ⟨bk, 5, none⟩ (.slice (some ⟨gz, 0, none⟩) (le.length + 1) cz)) (some bk)) := ⟨HBz.out.os, HBz.out.tape, HBz.out.output, by rw [World.size_setCell]; exact HBz.out.size, fun k hk hne => (Below.heap_setCell _ _ _ _ (by dsimp only; exact fun e => hne (by rw [e]))).trans (HBz.out.block k hk)⟩
      go_simp
      refine hK.out _ _ HQs.out (fun hHeld => ?_)
      clear hK K z5 zf HQz HXz HOz HBz
      generalize z1.setCell ⟨bk, 5, none⟩ (.slice (some ⟨gz, 0, none⟩) (le.length + 1) cz) = z2 at *
      refine wpAnyH_done (by kernel_rfl) ?_ _
      refine NoPanic.normal ?_
      have HFr : Hid (FrsN z2 (.slice (some ⟨gz, 0, none⟩) (le.length + 1) cz) (le.take p ++ [(s2, q, 0, d)] ++ le.drop p)) := FrsN.of_owns (B := y1.heap.size) (by
        have h := HOs.out
        rw [frC_take, frC_drop] at h
        have e1 : (le.take p ++ [(s2, q, 0, d)] ++ le.drop p).length = le.length + 1 := by simp; omega
        have e2 : frC (le.take p ++ [(s2, q, 0, d)] ++ le.drop p) = frC (le.take p) ++ [.int .u64 s2.toNat, .int .i64 q, .int .i64 0, .string d] ++ frC (le.drop p) := by rw [frC_append, frC_append]; rfl
        rw [e1, e2]
        exact h)
      have HSz : Hid (SrcV w z2 (.slice Ae n ce) (.slice (some ⟨gz, 0, none⟩) (le.length + 1) cz)) := SrcV.owns HOs.out (by omega) _ (Nat.le_refl _)
      clear HOs
      go_wp2_with fail
      go_ret
      exact ⟨true, _, _, rfl, HXs.out, HFr.out, fun y hy => by
        simp only [List.mem_append, List.mem_singleton] at hy
        rcases hy with (hy | hy) | hy
        · exact .inl (List.mem_of_mem_take hy)
        · exact .inr hy
        · exact .inl (List.mem_of_mem_drop hy), by simp; omega, HSz.out, HGs.out⟩
end Go.Proofs.Ytjgjhjecgdndjaa
