/- ParityAny: for every text and all numbers (k, p of a byte, lost of 32 bits) the call returns true. Conditions: none. -/
import Derived.Test.YtdgnhnhmcobfkaaParPlain
namespace Go.Proofs.Ytdgnhnhmcobfkaa
open Go.RowKit
set_option linter.unusedVariables false
set_option linter.unusedSimpArgs false
theorem boolInfo : (Try.prog.info? 4).map (fun i => (i.zero, i.size, i.bytes)) = some (some (.bool false), 1, 1) := by kernel_rfl
/-- block g begins with n truths f -/
structure BRow (w : World) (g n : Nat) (f : Nat → Bool) : Prop where
  lt : g < w.heap.size
  cell : ∀ j, j < n → w.cell? ⟨g, j, none⟩ = some (.bool (f j))
  free : ∀ j, j < n → w.frozen? ⟨g, j, none⟩ = false
theorem BRow.same {w w' : World} {g n : Nat} {f : Nat → Bool} (h : BRow w g n f) (hs : w.heap.size ≤ w'.heap.size) (hb : w'.heap[g]? = w.heap[g]?) : BRow w' g n f :=
  ⟨Nat.lt_of_lt_of_le h.lt hs, fun j hj => (World.cell?_of_block (a := ⟨g, j, none⟩) hb).trans (h.cell j hj), fun j hj => (World.frozen?_of_block (a := ⟨g, j, none⟩) hb).trans (h.free j hj)⟩
theorem BRow.congr {w : World} {g n : Nat} {f f' : Nat → Bool} (h : BRow w g n f) (he : ∀ j, j < n → f j = f' j) : BRow w g n f' :=
  ⟨h.lt, fun j hj => by rw [← he j hj]; exact h.cell j hj, h.free⟩
def updT (f : Nat → Bool) (j : Nat) (v : Bool) (i : Nat) : Bool := if i = j then v else f i
theorem BRow.set {w : World} {g n : Nat} {f : Nat → Bool} (h : BRow w g n f) (j : Nat) (v : Bool) (hj : j < n) : BRow (w.setCell ⟨g, j, none⟩ (.bool v)) g n (updT f j v) :=
  ⟨by rw [World.size_setCell]; exact h.lt, fun i hi => by
    by_cases e : i = j
    · subst e; rw [World.cell?_setCell_same _ _ _ (h.cell i hi)]; unfold updT; rw [if_pos rfl]
    · rw [World.cell?_setCell_other _ _ _ _ (by intro e'; injection e' with _ e'; exact e e'.symm)]
      unfold updT; rw [if_neg e]; exact h.cell i hi, fun i hi => by rw [World.frozen?_setCell]; exact h.free i hi⟩
theorem BRow.set_other {w : World} {g g2 n : Nat} {f : Nat → Bool} (h : BRow w g n f) (j : Nat) (v : Value) (hg : g2 ≠ g) : BRow (w.setCell ⟨g2, j, none⟩ v) g n f :=
  h.same (by rw [World.size_setCell]; exact Nat.le_refl _) (heap_setCell_other _ _ g _ (fun e => hg e.symm))
theorem SRow.set_other {w : World} {g g2 n : Nat} {f : Nat → ByteArray} (h : SRow w g n f) (j : Nat) (v : Value) (hg : g2 ≠ g) : SRow (w.setCell ⟨g2, j, none⟩ v) g n f :=
  h.same (by rw [World.size_setCell]; exact Nat.le_refl _) (heap_setCell_other _ _ g _ (fun e => hg e.symm))
theorem BRow.made {w : World} {B g n cap : Nat} (h : w.ownsRow B 4 1 (.slice (some ⟨g, 0, none⟩) n cap) n (madeCells (Value.bool false).cells (n * 1)).toList) : BRow w g n (fun _ => false) := by
  rcases h.2 with ⟨h1, _⟩ | ⟨g', cap', cur, hv, hb, hg, hn, hm, hc, ht⟩
  · cases h1
  · cases hv
    refine ⟨(Array.getElem?_eq_some_iff.1 hg).1, fun j hj => ?_, fun j hj => frozen_of_row w g j cur _ hg⟩
    have := h.cells (g := g) rfl j (.bool false) (by
      have : (Value.bool false).cells = #[.bool false] := rfl
      rw [this]
      simp [madeCells, hj, Nat.mod_one])
    rw [Addr.add_mid, Nat.zero_add] at this
    exact this
theorem BRow.boolB {w : World} {g n : Nat} {f : Nat → Bool} (h : BRow w g n f) (hn : n ≤ maxLen) : BoolB w (.slice (some ⟨g, 0, none⟩) n n) ((List.range n).map f) := by
  refine ⟨_, n, by simp, by simp, hn, fun hl => ⟨g, 0, rfl, h.lt, fun j hj => ?_⟩⟩
  have hj' : j < n := by simpa using hj
  rw [Nat.zero_add, h.cell j hj']
  simp
theorem wpList_make_bools {w : World} {ops : Array Oper} {rest : List Oper} {o : Oper} {a : Act} {Q : Exit → Act → World → Prop} (hg : o.guard = none) (l c : Operand) (t : TypeId) (hop : o.op = Op.makeSlice t l c)
    (h1 : Try.prog.underlying t = some (.slice 4)) (n : Nat) (hl : a.eval l = .int .i64 (n : Int)) (hc : a.eval c = .int .i64 (n : Int)) (hn : n ≤ 1000000000)
    (h : ∀ w', BRow w' w.heap.size n (fun _ => false) → Below w.heap.size w w' → wpList Try.prog ops Q rest (a.put o.dst (.slice (some ⟨w.heap.size, 0, none⟩) n n)) w') : wpList Try.prog ops Q (o :: rest) a w := by
  obtain ⟨i0, hi0, hz0, hz1, hz2⟩ := info_parts boolInfo
  refine wpList_make_full w hg l c t hop w.heap.size 4 i0 (.bool false) 1 h1 hi0 hz0 hz1 .i64 .i64 _ _ n hl hc rfl rfl (by rw [hz2]; omega) (by unfold maxLen; omega) (Nat.le_refl _) ?_
  intro w' hown hgr
  exact h w' (BRow.made hown) ((Below.refl _ _).grown hgr (Nat.le_refl _) (fun k e => by cases e))
theorem own_empty (w : World) : (w.alloc (.cells #[] 9)).ownsRow w.heap.size 9 1 (.slice (some ⟨w.heap.size, 0, none⟩) 0 0) 0 [] :=
  ⟨rfl, .inr ⟨w.heap.size, 0, #[], rfl, Nat.le_refl _, heap_alloc_new w _, Nat.le_refl _, Nat.zero_le _, rfl, rfl⟩⟩
/-- what the loop has written by round i -/
def lostF (l : List ByteArray) (hv : Nat → Bool) (i j : Nat) : ByteArray := if j < i ∧ hv j = false then .empty else l.getD j .empty
def haveF (hv : Nat → Bool) (i j : Nat) : Bool := if j < i then hv j else false
def cntF (hv : Nat → Bool) : Nat → Nat
  | 0 => 0
  | i + 1 => cntF hv i + if hv i = true then 1 else 0
theorem cntF_le (hv : Nat → Bool) : ∀ i, cntF hv i ≤ i
  | 0 => Nat.le_refl _
  | i + 1 => by unfold cntF; have := cntF_le hv i; split <;> omega
theorem cntF_B (hv : Nat → Bool) (N : Nat) : ∀ i, i ≤ N → cntB ((List.range N).map hv) i = cntF hv i
  | 0, _ => rfl
  | i + 1, hi => by
    have e : ((List.range N).map hv).getD i false = hv i := by
      rw [List.getD_eq_getElem?_getD, List.getElem?_map, List.getElem?_range (by omega)]; rfl
    unfold cntB cntF
    rw [cntF_B hv N i (by omega), e]
theorem haveF_upd (hv : Nat → Bool) (i : Nat) : updT (haveF hv i) i (hv i) = haveF hv (i + 1) := by
  funext j
  unfold updT haveF
  by_cases e : j = i
  · subst e; rw [if_pos rfl, if_pos (by omega)]
  · rw [if_neg e]
    by_cases e2 : j < i
    · rw [if_pos e2, if_pos (by omega)]
    · rw [if_neg e2, if_neg (by omega)]
theorem lostF_keep (l : List ByteArray) (hv : Nat → Bool) (i : Nat) (h : hv i = true) : lostF l hv i = lostF l hv (i + 1) := by
  funext j
  unfold lostF
  by_cases e : j < i ∧ hv j = false
  · rw [if_pos e, if_pos ⟨by omega, e.2⟩]
  · rw [if_neg e, if_neg]
    intro e2
    by_cases e3 : j = i
    · subst e3; rw [h] at e2; cases e2.2
    · exact e ⟨by omega, e2.2⟩
theorem lostF_upd (l : List ByteArray) (hv : Nat → Bool) (i : Nat) (h : hv i = false) : updS (lostF l hv i) i .empty = lostF l hv (i + 1) := by
  funext j
  unfold updS lostF
  by_cases e : j = i
  · subst e; rw [if_pos rfl, if_pos ⟨by omega, h⟩]
  · rw [if_neg e]
    by_cases e2 : j < i ∧ hv j = false
    · rw [if_pos e2, if_pos ⟨by omega, e2.2⟩]
    · rw [if_neg e2, if_neg (fun e3 => e2 ⟨by omega, e3.2⟩)]
theorem lostF_all (l more : List ByteArray) (hv : Nat → Bool) (N : Nat) (hN : N = l.length + more.length) : (List.range N).map (lostF (l ++ more) hv N) = allB l more ((List.range N).map hv) := by
  unfold allB
  rw [← hN]
  apply List.map_congr_left
  intro i hi
  have hi' : i < N := by simpa using hi
  have e : ((List.range N).map hv).getD i false = hv i := by
    rw [List.getD_eq_getElem?_getD, List.getElem?_map, List.getElem?_range hi']; rfl
  unfold lostF
  rw [e]
  cases hq : hv i with
  | true => rw [if_neg (by simp), if_pos rfl]
  | false => rw [if_pos ⟨hi', rfl⟩, if_neg (by simp)]
theorem haveF_all (hv : Nat → Bool) (N : Nat) : (List.range N).map (haveF hv N) = (List.range N).map hv := by
  apply List.map_congr_left
  intro i hi
  unfold haveF
  rw [if_pos (by simpa using hi)]
theorem allB_small {l more : List ByteArray} {h : List Bool} {M : Nat} (h1 : ∀ x ∈ l, x.size ≤ M) (h2 : ∀ x ∈ more, x.size ≤ M) : ∀ x ∈ allB l more h, x.size ≤ M := by
  intro x hx
  unfold allB at hx
  rw [List.mem_map] at hx
  obtain ⟨i, hi, rfl⟩ := hx
  have hi' : i < (l ++ more).length := by rw [List.length_append]; simpa using hi
  split
  · rw [List.getD_eq_getElem?_getD, List.getElem?_eq_getElem hi', Option.getD_some]
    rcases List.mem_append.1 (List.getElem_mem hi') with e | e
    · exact h1 _ e
    · exact h2 _ e
  · exact Nat.zero_le _
theorem timesL_small {m l : List ByteArray} : ∀ x ∈ timesL m l, x.size = firstN l := by
  intro x hx
  unfold timesL at hx
  split at hx
  · rw [List.mem_map] at hx
    obtain ⟨i, _, rfl⟩ := hx
    exact bytesF_size _ _
  · cases hx
theorem even_small {l : List ByteArray} (h : evenL l = true) : ∀ x ∈ l, x.size = firstN l := by
  intro x hx
  unfold evenL allN at h
  rw [List.all_eq_true] at h
  simpa using h x hx
set_option maxRecDepth 20000 in
set_option maxHeartbeats 4000000 in
theorem parityAny_any (W : World) (s : ByteArray) (k p lost : Nat) (hlo : lost < 4294967296) :
    Calls Try.prog 9 #[.string s, .int .u8 k, .int .u8 p, .int .u32 lost] W fun e w' => e = .returned (.bool true) ∧ Below W.heap.size W w' := by
  by_cases hs : s.size ≤ 300
  · have hd : decide ((300 : Int) < (s.size : Int)) = false := by simp; omega
    have HS1 : Hid (s.size ≤ 300) := hs
    clear hs
    obtain ⟨n, hn, hn0, hn8⟩ : ∃ n : Nat, ((k : Int) % 8 + 1) = (n : Int) ∧ 0 < n ∧ n ≤ 8 := ⟨k % 8 + 1, by omega, by omega, by omega⟩
    obtain ⟨m, hm, hm0, hm8⟩ : ∃ m : Nat, ((p : Int) % 8 + 1) = (m : Int) ∧ 0 < m ∧ m ≤ 8 := ⟨p % 8 + 1, by omega, by omega, by omega⟩
    obtain ⟨hv, hhv⟩ : ∃ hv : Nat → Bool, hv = fun j => (bits BinOp.and IntKind.u32 ((lost : Int) / 2 ^ j) 1 == 0) := ⟨_, rfl⟩
    go_enter Try.func9, Try.ntmps9
    go_wp2_with fail
    clear hn hm
    have HHV : Hid (∀ j, hv j = (bits BinOp.and IntKind.u32 ((lost : Int) / 2 ^ j) 1 == 0)) := fun j => by rw [hhv]
    clear hhv
    refine (split_any s n _ (by have := HS1.out; omega)).mono ?_
    rintro e w1 ⟨v1, rfl, s1, b1⟩
    obtain ⟨L, hL⟩ : ∃ L, L = splitL s n := ⟨_, rfl⟩
    have hLl : L.length = n := by rw [hL]; exact splitL_len hn0 (by omega)
    rw [show splitE (n : Int) = 0 from by unfold splitE; rw [if_pos (by unfold fewN; rw [decide_eq_true_iff]; omega)]]
    rw [← hL] at s1
    have hmk := make_split (s := s) (k := n) (p := m) hn0 (by omega) hm0 (by omega)
    have hfl : firstN L ≤ 1000000000 := by
      rw [hL, splitL_first hn0 (by omega)]
      have h1 : splitN s n ≤ s.size + n - 1 := Nat.div_le_self _ _
      have := HS1.out
      omega
    have HCL : Hid ((catL L).length ≤ 1000000000) := by
      unfold Hid
      rw [hL, catL_split hn0 (by omega), List.length_map, List.length_range]
      have h1 : splitN s n ≤ s.size + n - 1 := Nat.div_le_self _ _
      have := HS1.out
      have h2 : n * splitN s n ≤ 8 * 400 := Nat.mul_le_mul hn8 (by omega)
      omega
    have HJ := Lib.hid (join_split (s := s) (k := n) hn0 (by omega))
    have hev : evenL L = true := by rw [hL]; exact splitL_even hn0 (by omega)
    rw [← hL] at hmk HJ
    have H1 := Lib.hid s1
    have HW := Lib.hid b1
    have HMK := Lib.hid (fun w va (ha : StrsB w va L) => make_any w va L m ha hfl)
    rw [hmk.1] at HMK
    obtain ⟨more, hmo⟩ : ∃ more, more = makeL L m := ⟨_, rfl⟩
    have hml : more.length = m := by rw [hmo]; exact hmk.2.2
    have HMO : Hid (more = timesL (parM L.length m) L) := by unfold Hid; rw [hmo, hmk.2.1, hLl]
    rw [← hmo] at HMK
    have HEV := Lib.hid hev
    have HFL := Lib.hid hfl
    clear hL hmo hmk hev s1 b1 hfl
    obtain ⟨A1, c1, hv1, h5, h6⟩ := H1.out.1.len
    rw [hLl] at hv1 h5
    subst hv1
    have HLl := Lib.hid hLl
    have HMl := Lib.hid hml
    clear hLl hml
    go_wp2_with fail
    refine (HMK.out w1 _ H1.out.1).mono ?_
    rintro e w2 ⟨v2, rfl, s2, b2⟩
    replace H1 := Lib.hid (H1.out.below b2 (Nat.le_refl _))
    replace HW := Lib.hid (HW.out.trans (b2.mono HW.out.size))
    have H2 := Lib.hid s2
    clear s2 b2
    obtain ⟨A2, c2, hv2, h7, h8⟩ := H2.out.1.len
    rw [HMl.out] at hv2 h7
    subst hv2
    have hne1 : ((n : Int) != (n : Int)) = false := by simp
    have hne2 : ((m : Int) != (m : Int)) = false := by simp
    go_wp2_with (at_builtin; refine wpList_append_strs rfl _ _ 31 rfl Try.underlying31 w2.heap.size (.slice (some ⟨w2.heap.size, 0, none⟩) 0 0) [] rfl (own_empty w2) _ L rfl (H1.out.below ((Below.refl _ _).alloc (Nat.le_refl _) _) (Nat.le_refl _)) (by have := HLl.out; simp; omega) (by simp) ?_)
    intro v3 w3 o3 g3
    have HO3 : Hid (w3.ownsRow w2.heap.size 9 1 v3 L.length (L.map .string)) := by unfold Hid; simpa using o3
    have HB3 : Hid (Below w2.heap.size w2 w3) := ((Below.refl _ _).alloc (Nat.le_refl _) _).grown g3 (by simp) (fun k hk => by cases hk; exact Nat.le_refl _)
    have hs3 := HB3.out.size
    have H23 := Lib.hid (H2.out.below HB3.out (Nat.le_refl _))
    clear o3 g3
    go_wp2_with (at_builtin; refine wpList_append_strs rfl _ _ 31 rfl Try.underlying31 w2.heap.size v3 L rfl HO3.out _ more rfl H23.out (by have := HLl.out; have := HMl.out; omega) hs3 ?_)
    intro v4 w4 o4 g4
    have HB4 : Hid (Below w2.heap.size w2 w4) := HB3.out.grown g4 hs3 (fun k hk => (HO3.out.lt k hk).1)
    obtain ⟨N, hN⟩ : ∃ N, N = n + m := ⟨_, rfl⟩
    have hAl : (L ++ more).length = N := by rw [List.length_append, HLl.out, HMl.out, hN]
    have o5 : w4.ownsRow w2.heap.size 9 1 v4 (L ++ more).length ((L ++ more).map .string) := by simpa using o4
    rcases o5.2 with ⟨_, h0⟩ | ⟨g, cap, cur, hv4, _⟩
    · omega
    rw [hAl] at hv4
    subst hv4
    obtain ⟨hS, hgB, hqq, hcap1, hcap2⟩ := SRow.of_owns o5
    clear hqq
    rw [hAl] at hS hcap1
    have HS : Hid (SRow w4 g N (fun j => (L ++ more).getD j .empty)) := hS
    have HG : Hid (w2.heap.size ≤ g) := hgB
    have HCAP : Hid (N ≤ cap ∧ cap ≤ maxLen) := ⟨hcap1, hcap2⟩
    have hgs : g < w4.heap.size := hS.lt
    have hs4 := HB4.out.size
    clear o4 o5 g4 hS hgB hcap1 hcap2 HO3 HB3 hs3 H23
    have hNI : (n : Int) + (m : Int) = (N : Int) := by omega
    have hN1 : N ≤ 16 := by omega
    have hN0 : 0 < N := by omega
    have HN := Lib.hid hN
    clear hN hAl
    go_wp2_with (at_make; refine wpList_make_bools rfl _ _ 37 rfl Try.underlying37 N rfl rfl (by omega) ?_)
    intro w5 hB5 b5
    obtain ⟨gh, hgh⟩ : ∃ gh, gh = w4.heap.size := ⟨_, rfl⟩
    have hgne : g ≠ gh := by omega
    have hgne' : gh ≠ g := by omega
    have HGH : Hid (w2.heap.size ≤ gh) := by unfold Hid; omega
    have HS5 : Hid (SRow w5 g N (lostF (L ++ more) hv 0)) := (HS.out.below b5 hgs).congr fun j hj => by unfold lostF; rw [if_neg (fun e => by omega)]
    have HR5 : Hid (BRow w5 gh N (haveF hv 0)) := by
      unfold Hid; rw [hgh]; exact hB5.congr fun j hj => by unfold haveF; rw [if_neg (by omega)]
    have HB5 : Hid (Below w2.heap.size w2 w5) := HB4.out.trans (b5.mono hs4)
    rw [← hgh]
    have hcapI : cap ≤ 9223372036854775807 := by have := HCAP.out.2; unfold maxLen at this; omega
    have hNc : N ≤ cap := HCAP.out.1
    clear hgh hB5 b5 HS HB4 hs4 hgs
    have hNI2 : N ≤ 9223372036854775807 := by omega
    go_wp2_with fail
    go_loopw [17, 78] (fun t q wr => ∃ i : Nat, i ≤ N ∧ q = .int .i64 i ∧ t = .int .i64 (cntF hv i) ∧ Hid (SRow wr g N (lostF (L ++ more) hv i)) ∧ Hid (BRow wr gh N (haveF hv i)) ∧ Hid (Below w2.heap.size w2 wr)) (fun _ q _ => N - (intOf q).toNat)
    case atStart => exact ⟨0, Nat.zero_le _, rfl, rfl, HS5.out, HR5.out, HB5.out⟩
    case round =>
      obtain ⟨i, hi, rfl, rfl, HSi, HRi, HBi⟩ := hrel
      by_cases hlt : i < N
      · have hlt' : (i : Int) < (N : Int) := by omega
        have hic : i < cap := by omega
        have hi16 : i < 16 := by omega
        have e4 : wr.cell? ⟨gh, i, none⟩ = some (.bool (haveF hv i i)) := HRi.out.cell i hlt
        have f4 : wr.frozen? ⟨gh, i, none⟩ = false := HRi.out.free i hlt
        have e5 : wr.cell? ⟨g, i, none⟩ = some (.string (lostF (L ++ more) hv i i)) := HSi.out.cell i hlt
        have f5 : wr.frozen? ⟨g, i, none⟩ = false := HSi.out.free i hlt
        have HNX : Hid (cntF hv (i + 1) = cntF hv i + if hv i = true then 1 else 0) := rfl
        have hc16 : cntF hv i ≤ i := cntF_le hv i
        have hbt := HHV.out i
        have HBX : ∀ v, Hid (Below w2.heap.size w2 (wr.setCell ⟨gh, i, none⟩ v)) := fun v => HBi.out.setCell (p := ⟨gh, i, none⟩) HGH.out _
        have HRX : Hid (BRow (wr.setCell ⟨gh, i, none⟩ (.bool (hv i))) gh N (haveF hv (i + 1))) := by
          unfold Hid; rw [← haveF_upd]; exact HRi.out.set i (hv i) hlt
        have HSX : Hid (SRow (wr.setCell ⟨gh, i, none⟩ (.bool (hv i))) g N (lostF (L ++ more) hv i)) := HSi.out.set_other i _ hgne'
        have HK1 := Lib.hid (lostF_keep (L ++ more) hv i)
        have HK2 := Lib.hid (lostF_upd (L ++ more) hv i)
        generalize haveF hv i i = b4 at *
        generalize lostF (L ++ more) hv i i = b5 at *
        cases hq : hv i with
        | true =>
          rw [hq] at hbt HRX HSX HK1 HNX
          have hbit := hbt.symm
          have HNX2 : Hid (cntF hv (i + 1) = cntF hv i + 1) := HNX.out
          have HK3 : Hid (lostF (L ++ more) hv i = lostF (L ++ more) hv (i + 1)) := HK1.out rfl
          generalize cntF hv i = cn at *
          clear hq hbt HNX HK1 HK2
          go_wp2_with fail
          go_roundw
          case rel => exact ⟨i + 1, by omega, by go_num, by rw [HNX2.out]; go_num, by rw [← HK3.out]; exact HSX, HRX, HBX _⟩
          case measure => simp [intOf]; omega
        | false =>
          rw [hq] at hbt HRX HSX HK2 HNX
          have hbit := hbt.symm
          have HNX2 : Hid (cntF hv (i + 1) = cntF hv i) := HNX.out
          have HK3 : Hid (updS (lostF (L ++ more) hv i) i .empty = lostF (L ++ more) hv (i + 1)) := HK2.out rfl
          have HSY : Hid (SRow ((wr.setCell ⟨gh, i, none⟩ (.bool false)).setCell ⟨g, i, none⟩ (.string ⟨#[]⟩)) g N (lostF (L ++ more) hv (i + 1))) := by
            unfold Hid; rw [← HK3.out]; exact HSX.out.set i .empty hlt
          have HRY : Hid (BRow ((wr.setCell ⟨gh, i, none⟩ (.bool false)).setCell ⟨g, i, none⟩ (.string ⟨#[]⟩)) gh N (haveF hv (i + 1))) := HRX.out.set_other i _ hgne
          have HBY : Hid (Below w2.heap.size w2 ((wr.setCell ⟨gh, i, none⟩ (.bool false)).setCell ⟨g, i, none⟩ (.string ⟨#[]⟩))) := (HBX _).out.setCell (p := ⟨g, i, none⟩) HG.out _
          generalize cntF hv i = cn at *
          clear hq hbt HNX HK1 HK2 HSX HRX
          go_wp2_with fail
          go_roundw
          case rel => exact ⟨i + 1, by omega, by go_num, by rw [HNX2.out], HSY, HRY, HBY⟩
          case measure => simp [intOf]; omega
      · obtain rfl : i = N := by omega
        have HAL : Hid (StrsB wr (.slice (some ⟨g, 0, none⟩) i cap) (allB L more ((List.range i).map hv))) := by
          unfold Hid
          rw [← lostF_all L more hv i (by rw [HN.out, HLl.out, HMl.out])]
          exact (HSi.out.strsC HCAP.out.1 HCAP.out.2).1
        have HHA : Hid (BoolB wr (.slice (some ⟨gh, 0, none⟩) i i) ((List.range i).map hv)) := by
          unfold Hid
          rw [← haveF_all hv i]
          exact HRi.out.boolB (by unfold maxLen; omega)
        have HME := Lib.hid (mend_all (l := L) m ((List.range i).map hv) (by rw [HLl.out]; exact hn0) (by rw [HLl.out]; omega) hm0 (by omega) HEV.out (by rw [List.length_map, List.length_range, HLl.out]; exact HN.out))
        rw [← HMO.out, HLl.out, ← HN.out, cntF_B hv i i (Nat.le_refl _)] at HME
        have HWr := Lib.hid (HW.out.trans (HBi.out.mono HW.out.size))
        have H1r := Lib.hid (H1.out.below HBi.out (Nat.le_refl _))
        have H2r := Lib.hid (H2.out.below HBi.out (Nat.le_refl _))
        have HSMALL : Hid (∀ x ∈ allB L more ((List.range i).map hv), x.size ≤ 1000000000) := by
          refine allB_small (fun x hx => ?_) (fun x hx => ?_)
          · rw [even_small HEV.out x hx]; exact HFL.out
          · rw [HMO.out] at hx; rw [timesL_small x hx]; exact HFL.out
        have HCA := Lib.hid (mend_any wr _ _ _ _ n HAL.out HHA.out HSMALL.out)
        generalize allB L more ((List.range i).map hv) = al at *
        generalize (List.range i).map hv = ha at *
        have hcn := cntF_le hv i
        generalize cntF hv i = cn at *
        clear HSi HRi HBi HAL HHA HEV HMO HS5 HR5 HB5 H1 H2 HW HSMALL
        have hs1 : (s.toList == s.toList) = true := by simp
        by_cases hc : cn < n
        · have hE : mendE al ha n = 5 := by rw [HME.out.1, if_pos hc]
          have hV : mendV al ha n = [] := by unfold mendV; rw [hE]; rfl
          rw [hE, hV] at HCA
          have hd5 : decide ((cn : Int) < (n : Int)) = true := by simp; omega
          clear HME hE hV
          go_wp2_with fail
          refine HCA.out.mono ?_
          rintro e w6 ⟨v6, rfl, s6, b6⟩
          obtain ⟨A6, c6, hv6, _, _⟩ := s6.1.len
          subst hv6
          have HW6 := Lib.hid (HWr.out.trans (b6.mono HWr.out.size))
          clear s6 b6 HCA
          go_wp2_with fail
          refine (parAwake_any _).mono ?_
          rintro e wA ⟨rfl, bA⟩
          go_wp2
          go_ret
          exact ⟨rfl, HW6.out.trans (bA.mono HW6.out.size)⟩
        · have hE : mendE al ha n = 0 := by rw [HME.out.1, if_neg hc]
          have hV : mendV al ha n = L := HME.out.2 (by omega)
          rw [hE, hV] at HCA
          have hd5 : decide ((cn : Int) < (n : Int)) = false := by simp; omega
          have hnc2 : ¬ (cn : Int) < (n : Int) := by omega
          clear HME hE hV
          go_wp2_with fail
          refine HCA.out.mono ?_
          rintro e w6 ⟨v6, rfl, s6, b6⟩
          obtain ⟨A6, c6, hv6, _, _⟩ := s6.1.len
          rw [HLl.out] at hv6
          subst hv6
          have HW6 := Lib.hid (HWr.out.trans (b6.mono HWr.out.size))
          replace H1r := Lib.hid (H1r.out.below b6 (Nat.le_refl _))
          replace H2r := Lib.hid (H2r.out.below b6 (Nat.le_refl _))
          have H6 := Lib.hid s6
          clear s6 b6 HCA HWr
          have HJN := Lib.hid (join_any w6 _ L s.size H6.out.1 HCL.out (by rw [HLl.out]; omega))
          rw [HJ.out.1, HJ.out.2] at HJN
          go_wp2_with fail
          refine HJN.out.mono ?_
          rintro e w7 ⟨rfl, b7⟩
          have HW7 := Lib.hid (HW6.out.trans (b7.mono HW6.out.size))
          replace H1r := Lib.hid (H1r.out.below b7 (Nat.le_refl _))
          replace H2r := Lib.hid (H2r.out.below b7 (Nat.le_refl _))
          replace H6 := Lib.hid (H6.out.below b7 (Nat.le_refl _))
          clear b7 HW6 HJN
          go_wp2_with fail
          refine (HMK.out w7 _ H6.out.1).mono ?_
          rintro e w8 ⟨v8, rfl, s8, b8⟩
          have HW8 := Lib.hid (HW7.out.trans (b8.mono HW7.out.size))
          replace H1r := Lib.hid (H1r.out.below b8 (Nat.le_refl _))
          replace H2r := Lib.hid (H2r.out.below b8 (Nat.le_refl _))
          replace H6 := Lib.hid (H6.out.below b8 (Nat.le_refl _))
          have H8 := Lib.hid s8
          clear s8 b8 HW7
          go_wp2_with fail
          refine (psame_self _ _ _ _ H6.out.1 H1r.out.1).mono ?_
          rintro e w' ⟨rfl, n1, rfl⟩
          replace H2r := Lib.hid (H2r.out.1.drewN n1)
          replace H8 := Lib.hid (H8.out.1.drewN n1)
          replace HW8 := Lib.hid (Below.drewN HW8.out n1)
          clear H1r H6
          go_wp2_with fail
          refine (psame_self _ _ _ _ H8.out H2r.out).mono ?_
          rintro e w' ⟨rfl, n2, rfl⟩
          have hqw := Below.drewN HW8.out n2
          rw [World.drewN_drewN] at hqw
          replace HW8 := Lib.hid hqw
          clear hqw
          clear H8 H2r
          go_wp2_with fail
          refine (parAwake_any _).mono ?_
          rintro e wA ⟨rfl, bA⟩
          go_wp2
          go_ret
          exact ⟨rfl, HW8.out.trans (bA.mono HW8.out.size)⟩
  · have hd : decide ((300 : Int) < (s.size : Int)) = true := by simp; omega
    clear hs
    go_enter Try.func9, Try.ntmps9
    go_wp2_with fail
    refine (parAwake_any _).mono ?_
    rintro e wA ⟨rfl, bA⟩
    go_wp2
    go_ret
    exact ⟨rfl, bA⟩
theorem parityAny_ok (W : World) (x0 : ByteArray) {p0 : Prop} (w0 : p0) (x1 : UInt8) (x2 : UInt8) (x3 : UInt32) :
    Calls Try.prog 9 #[.string x0, .int .u8 x1.toNat, .int .u8 x2.toNat, .int .u32 x3.toNat] W fun e w' => e = .returned (.bool true) ∧ Below W.heap.size W w' :=
  parityAny_any W x0 x1.toNat x2.toNat x3.toNat x3.toNat_lt
end Go.Proofs.Ytdgnhnhmcobfkaa
