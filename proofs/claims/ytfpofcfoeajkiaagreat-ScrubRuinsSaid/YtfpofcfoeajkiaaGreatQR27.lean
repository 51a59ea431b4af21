/- Texts of this claim's author, packed: ScrRuins. Conditions: none. -/
import Derived.Test.YtfpofcfoeajkiaaGreatQR26
/- ScrubRuins: the law's walk (printed by gen-scr-ruins.py). -/
namespace Go.Proofs.YtfpofcfoeajkiaaGreat
open Go.RowKit
set_option linter.unusedVariables false
set_option linter.unusedSimpArgs false
set_option maxRecDepth 20000 in
theorem rFrames_any (s : ByteArray) (hs : s.size ≤ 1000000) (w : World) :
    Calls Tryz.prog 13 #[.string s] w fun e w' => ∃ v, e = .returned v ∧ StrsB w' v (framesL s.data.toList) ∧ Below w.heap.size w w' := by
  have HF := Lib.hid (fun W => rframes_any s hs W)
  generalize framesL s.data.toList = L at *
  go_enter Tryz.func13, Tryz.ntmps13
  go_wp2_with fail
  refine (HF.out _).mono ?_
  rintro e w1 ⟨v, rfl, o1, b1⟩
  have HO := Lib.hid (StrsB.of_owns o1)
  have HB := Lib.hid b1
  clear o1 b1
  go_wp2_with fail
  go_ret
  exact ⟨_, rfl, HO.out, HB.out⟩
set_option maxRecDepth 20000 in
theorem rFrame_any (t : ByteArray) (ht : t.size ≤ 65536) (w : World) :
    Calls Tryz.prog 14 #[.string t] w fun e w' => e = .returned (.string (fB t.data.toList)) ∧ Below w.heap.size w w' := by
  have HF := Lib.hid (fun W => refWrap_any t (by omega) W)
  have HE : Hid (fB t.data.toList = ⟨(fWrap t.data.toList).toArray⟩) := rfl
  rw [← HE.out] at HF
  generalize fB t.data.toList = T at *
  go_enter Tryz.func14, Tryz.ntmps14
  go_wp2_with fail
  refine (HF.out _).mono ?_
  rintro e w1 ⟨rfl, b1⟩
  have HB := Lib.hid b1
  clear b1
  go_wp2_with fail
  go_ret
  exact ⟨rfl, HB.out⟩
def ownL (k p Z : Nat) (G : List Shd) : List ByteArray := Bs (headT k p Z G) :: (List.range G.length).map (shText G)
theorem shText_size {G : List Shd} (hd : ∀ x ∈ G, x.2.1.size ≤ 300) (hl : G.length ≤ 12) (i : Nat) (hi : i < G.length) : (shText G i).size ≤ 400 := by
  unfold shText
  rw [bs_size, List.length_append, getD_def G i hi]
  have h1 := vPut_len10 i (by omega)
  have h2 := hd _ (List.getElem_mem hi)
  have h3 : G[i].2.1.data.toList.length = G[i].2.1.size := by simp
  omega
theorem head_size {k p Z : Nat} {G : List Shd} (hs : ∀ x ∈ G, x.2.2.size = 32) (hl : G.length ≤ 12) (hk : k ≤ 6) (hp : p ≤ 6) (hz : Z ≤ 65536) : (Bs (headT k p Z G)).size ≤ 500 := by
  rw [bs_size]
  unfold headT
  rw [List.length_append, List.length_append, List.length_append, sumsL_len hs]
  have h1 := vPut_len10 k (by omega)
  have h2 := vPut_len10 p (by omega)
  have h3 := vPut_len10 Z (by omega)
  omega
theorem frames_own {k p Z : Nat} {G : List Shd} (hg : GoodS G) (hd : ∀ x ∈ G, x.2.1.size ≤ 300) (hk0 : 0 < k) (hk : k ≤ 6) (hp0 : 0 < p) (hp : p ≤ 6) (hz : Z ≤ 65536) (hl : G.length = k + p) :
    framesL (writeL k p Z G) = ownL k p Z G := by
  have hf := fit_mask hg (fun _ => true) hk0 (by omega) hp0 (by omega) hz hl
  rw [maskS_full G _ (fun _ _ => rfl)] at hf
  have ht : (textsL 0 G).map Bs = (List.range G.length).map (shText G) := by
    apply List.ext_getElem?
    intro i
    by_cases hi : i < G.length
    · rw [List.getElem?_map, List.getElem?_map, textsL_get G 0 i hi, List.getElem?_range hi]
      simp only [Option.map_some, Nat.zero_add]
      unfold shText
      rw [getD_def G i hi]
    · rw [List.getElem?_eq_none (by rw [List.length_map, textsL_len]; omega), List.getElem?_eq_none (by simp; omega)]
  unfold writeL
  rw [if_pos hf, frames_wrap]
  · unfold ownT ownL
    rw [List.map_cons, ht]
    rfl
  · intro t hm
    have hsz : (Bs t).size ≤ 500 := by
      unfold ownT at hm
      rcases List.mem_cons.1 hm with rfl | hm
      · exact head_size hg.sums (by omega) hk hp hz
      · have : Bs t ∈ (textsL 0 G).map Bs := List.mem_map_of_mem hm
        rw [ht] at this
        obtain ⟨i, hi, e⟩ := List.mem_map.1 this
        have := shText_size hd (by omega) i (by simpa using hi)
        rw [e] at this
        omega
    rw [bs_size] at hsz
    omega
theorem own_size {k p Z : Nat} {G : List Shd} (hg : GoodS G) (hd : ∀ x ∈ G, x.2.1.size ≤ 300) (hk : k ≤ 6) (hp : p ≤ 6) (hz : Z ≤ 65536) (hl : G.length = k + p) : ∀ t ∈ ownL k p Z G, t.size ≤ 500 := fun t ht => by
  unfold ownL at ht
  rcases List.mem_cons.1 ht with rfl | hm
  · exact head_size hg.sums (by omega) hk hp hz
  · obtain ⟨i, hi, rfl⟩ := List.mem_map.1 hm
    have := shText_size hd (by omega) i (by simpa using hi)
    omega
theorem flat_len : ∀ (ts : List (List UInt8)), (∀ t ∈ ts, t.length ≤ 500) → (ts.flatMap fWrap).length ≤ ts.length * 600
  | [], _ => Nat.zero_le _
  | t :: ts, h => by
    have h1 := h t (by simp)
    have ih := flat_len ts (fun x hx => h x (by simp [hx]))
    have h2 := vPut_len10 t.length (by omega)
    rw [List.flatMap_cons, List.length_append, fWrap_len t (by omega), List.length_cons]
    omega
theorem write_len {k p Z : Nat} {G : List Shd} (hg : GoodS G) (hd : ∀ x ∈ G, x.2.1.size ≤ 300) (hk : k ≤ 6) (hp : p ≤ 6) (hz : Z ≤ 65536) (hl : G.length = k + p) : (writeL k p Z G).length ≤ 1000000 := by
  unfold writeL
  split
  · refine Nat.le_trans (flat_len _ (fun t hm => ?_)) ?_
    · unfold ownT at hm
      rcases List.mem_cons.1 hm with rfl | hm
      · have := head_size (Z := Z) hg.sums (by omega) hk hp hz
        rw [bs_size] at this
        exact this
      · obtain ⟨i, hi, rfl⟩ := List.mem_iff_getElem.1 hm
        rw [textsL_len] at hi
        have e := textsL_get G 0 i hi
        rw [List.getElem?_eq_getElem (by rw [textsL_len]; exact hi), Option.some.injEq] at e
        rw [e, List.length_append]
        have h1 := vPut_len10 (0 + i) (by omega)
        have h2 := hd _ (List.getElem_mem hi)
        have h3 : G[i].2.1.data.toList.length = G[i].2.1.size := by simp
        omega
    · unfold ownT
      rw [List.length_cons, textsL_len]
      omega
  · simp
/-- the texts that the law wants: those of the frames kept -/
def wantL (O : List ByteArray) (kp : Nat → Bool) (j : Nat) : List ByteArray := ((List.range j).filter kp).map fun i => O.getD i .empty
theorem wantL_succ (O : List ByteArray) (kp : Nat → Bool) (j : Nat) : wantL O kp (j + 1) = if kp j = true then wantL O kp j ++ [O.getD j .empty] else wantL O kp j := by
  unfold wantL
  rw [List.range_succ, List.filter_append, List.map_append]
  cases h : kp j <;> simp [h]
theorem kept_succ (kp : Nat → Bool) (j : Nat) : ((List.range (j + 1)).filter kp).length = ((List.range j).filter kp).length + (if kp j = true then 1 else 0) := by
  rw [List.range_succ, List.filter_append, List.length_append]
  cases h : kp j <;> simp [h]
theorem own_split (k p Z : Nat) (G : List Shd) (kp : Nat → Bool) (h0 : kp 0 = true) :
    wantL (ownL k p Z G) kp (G.length + 1) = Bs (headT k p Z G) :: ((List.range G.length).filter fun i => kp (i + 1)).map (shText G) ∧
    ((List.range (G.length + 1)).filter kp).length = ((List.range G.length).filter fun i => kp (i + 1)).length + 1 := by
  have e : (List.range (G.length + 1)).filter kp = 0 :: ((List.range G.length).filter fun i => kp (i + 1)).map (· + 1) := by
    rw [List.range_succ_eq_map, List.filter_cons, if_pos h0, List.filter_map]
    rfl
  refine ⟨?_, by rw [e]; simp⟩
  unfold wantL
  rw [e, List.map_cons, List.map_map]
  refine List.cons_eq_cons.2 ⟨rfl, ?_⟩
  apply List.map_congr_left
  intro i hi
  have hi' : i < G.length := by simpa using (List.mem_filter.1 hi).1
  unfold ownL
  simp [List.getD_eq_getElem?_getD, List.getElem?_range hi']
set_option maxHeartbeats 1000000 in
theorem guard_run (s : ByteArray) (k p : Nat) (hk0 : 0 < k) (hk : k ≤ 6) (hp0 : 0 < p) (hp : p ≤ 6) (hs : s.size ≤ 200) (w : World) :
    Calls Tryz.prog 12 #[.string s, .int .i64 k, .int .i64 p] w fun e w' => ∃ A c, e = .returned (.tuple #[.agg #[.int .i64 k, .int .i64 p, .int .i64 s.size, .slice A (guardL s k p).length c], .int .i64 0]) ∧ ShdB w' (.slice A (guardL s k p).length c) (guardL s k p) ∧ Below w.heap.size w w' := by
  obtain ⟨_, h2, h3⟩ := guard_all (s := s) hk0 (by omega) hp0 (by omega)
  have hn : splitN s k ≤ 300 := by unfold splitN; have := Nat.div_le_self (s.size + k - 1) k; omega
  have h := guard_ok s k p w hk0 (by omega) hp0 (by omega) (by omega) (by rw [splitL_first hk0 (by omega)]; omega) (by omega) (by omega) (fun x hx => by
    obtain ⟨i, hi, rfl⟩ := List.mem_iff_getElem.1 hx
    have := h3 i (by omega)
    rw [List.getD_eq_getElem?_getD, List.getElem?_eq_getElem hi] at this
    simp only [Option.getD_some] at this
    omega)
  have hl := guard_len (s := s) hk0 (by omega) hp0 (by omega : p ≤ 16)
  refine h.mono ?_
  rintro e w' ⟨A, c, rfl, o, b⟩
  rw [h2, ← hl] at o ⊢
  exact ⟨A, c, rfl, ShdB.of_owns o, b⟩
def bitF (lost : UInt32) (i : Nat) : Bool := bits .and .u32 ((lost.toNat : Int) / 2 ^ i) 1 == 1
def keptF (lost : UInt32) (i : Nat) : Bool := decide (i = 0) || !bitF lost i
set_option maxRecDepth 20000 in
set_option maxHeartbeats 16000000 in
theorem ruins_core (w : World) (s junk : ByteArray) (xa xb : UInt8) (lost : UInt32) (hs : s.size ≤ 140737488351232) (hj : junk.size ≤ 140737488351232) :
    Calls Tryz.prog 4 #[.string s, .int .u8 xa.toNat, .int .u8 xb.toNat, .string junk, .int .u32 lost.toNat] w fun e w' => e = .returned (.bool true) ∧ Below w.heap.size w w' := by
  have HAW := Lib.hid (fun W => awake_any W)
  have LOW : Hid (Below w.heap.size w w) := Below.refl _ _
  by_cases h1 : 200 < s.size
  · have h1i : decide ((s.size : Int) > 200) = true := by rw [decide_eq_true_iff]; omega
    go_enter Tryz.func4, Tryz.ntmps4
    go_wp2_with fail
    refine (awake_any _).mono ?_
    rintro e wz ⟨rfl, bz⟩
    have HZ := Lib.hid (LOW.out.trans (bz.mono LOW.out.size))
    clear bz
    go_wp2_with fail
    go_ret
    exact ⟨rfl, HZ.out⟩
  have h1i : decide ((s.size : Int) > 200) = false := by rw [decide_eq_false_iff_not]; omega
  by_cases h2 : 30 < junk.size
  · have h2i : decide ((junk.size : Int) > 30) = true := by rw [decide_eq_true_iff]; omega
    go_enter Tryz.func4, Tryz.ntmps4
    go_wp2_with fail
    refine (awake_any _).mono ?_
    rintro e wz ⟨rfl, bz⟩
    have HZ := Lib.hid (LOW.out.trans (bz.mono LOW.out.size))
    clear bz
    go_wp2_with fail
    go_ret
    exact ⟨rfl, HZ.out⟩
  have h2i : decide ((junk.size : Int) > 30) = false := by rw [decide_eq_false_iff_not]; omega
  obtain ⟨k, hk⟩ : ∃ k, k = xa.toNat % 6 + 1 := ⟨_, rfl⟩
  obtain ⟨p, hp⟩ : ∃ p, p = xb.toNat % 6 + 1 := ⟨_, rfl⟩
  have hk0 : 0 < k := by omega
  have hk6 : k ≤ 6 := by omega
  have hp0 : 0 < p := by omega
  have hp6 : p ≤ 6 := by omega
  have hkI : (xa.toNat : Int) % 6 + 1 = (k : Int) := by omega
  have hpI : (xb.toNat : Int) % 6 + 1 = (p : Int) := by omega
  have hGG := guard_good (s := s) (k := k) (p := p)
  have hGL := guard_len (s := s) hk0 (by omega : k ≤ 16) hp0 (by omega : p ≤ 16)
  have hGD : ∀ x ∈ guardL s k p, x.2.1.size ≤ 300 := fun x hx => by
    obtain ⟨i, hi, rfl⟩ := List.mem_iff_getElem.1 hx
    have h1 := (guard_data hk0 (by omega : k ≤ 16) hp0 (by omega : p ≤ 16) i hi).2
    have hn : splitN s k ≤ 300 := by unfold splitN; have := Nat.div_le_self (s.size + k - 1) k; omega
    omega
  have hFO := frames_own (Z := s.size) hGG hGD hk0 hk6 hp0 hp6 (by omega) hGL
  have hOS := own_size (Z := s.size) hGG hGD hk6 hp6 (by omega) hGL
  have hOL : (ownL k p s.size (guardL s k p)).length = k + p + 1 := by unfold ownL; simp [hGL]
  have HSP := Lib.hid (fun kp h0 => own_split k p s.size (guardL s k p) kp h0)
  have HRM := Lib.hid (fun js hn hj => readS_mask (K := k) (P := p) (Z := s.size) hGG hk0 (by omega) hp0 (by omega) (by omega) hGL js hn hj)
  have HRT := Lib.hid (fun g m hm => ruins_text (s := s) hk0 (by omega : k ≤ 16) hp0 (by omega : p ≤ 16) g m hm)
  have HFM := Lib.hid (fun f => fit_mask (K := k) (P := p) (Z := s.size) hGG f hk0 (by omega) hp0 (by omega) (by omega) hGL)
  have HJS := Lib.hid (join_split (s := s) hk0 (by omega : k ≤ 16))
  have HCS : Hid ((catL (splitL s k)).length ≤ 1000000000 ∧ (splitL s k).length ≤ 1000000) := by
    have hn : splitN s k ≤ 300 := by unfold splitN; have := Nat.div_le_self (s.size + k - 1) k; omega
    rw [catL_split hk0 (by omega), splitL_len hk0 (by omega)]
    refine ⟨?_, by omega⟩
    rw [List.length_map, List.length_range]
    have : k * splitN s k ≤ 6 * 300 := Nat.mul_le_mul hk6 hn
    omega
  have HGR := Lib.hid (fun W => guard_run s k p hk0 hk6 hp0 hp6 (by omega) W)
  have HGS := Lib.hid hGG.sums
  generalize guardL s k p = G at *
  obtain ⟨N, hN⟩ : ∃ N, N = G.length := ⟨_, rfl⟩
  have hNN : N = k + p := by omega
  have HPW := Lib.hid (fun W v (h : ShdB W v G) => pwrite_any W k p s.size v G h (by omega) (fun x hx => ⟨by have := hGD x hx; omega, by have := HGS.out x hx; omega⟩))
  have HWS : Hid ((⟨(writeL k p s.size G).toArray⟩ : ByteArray).size ≤ 1000000 ∧ framesL (⟨(writeL k p s.size G).toArray⟩ : ByteArray).data.toList = ownL k p s.size G) := by
    exact ⟨by rw [bs_size]; exact write_len hGG hGD hk6 hp6 (by omega) hGL, by rw [bs_list]; exact hFO⟩
  generalize (⟨(writeL k p s.size G).toArray⟩ : ByteArray) = WT at *
  have HFW := Lib.hid (fun W => rFrames_any WT HWS.out.1 W)
  rw [HWS.out.2] at HFW
  generalize hO : ownL k p s.size G = O at *
  rw [← hN] at hGL HGR
  have HOS := Lib.hid hOS
  have HGD := Lib.hid hGD
  have HNE := Lib.hid hN.symm
  have HP0 : Hid (∀ W, Calls Tryz.prog 9 #[.agg #[.int .i64 0, .int .i64 0, .int .i64 0, .slice none 0 0]] W fun e w' => e = .returned (.string ⟨#[]⟩) ∧ Below W.heap.size W w') := fun W => pwrite_any W 0 0 0 _ [] ⟨none, 0, rfl, Nat.le_refl _, by unfold maxLen; omega, fun h => absurd h (by simp)⟩ (by simp) (fun x hx => nomatch hx)
  have HO := Lib.hid hO
  obtain ⟨n1, hn1⟩ : ∃ n1, n1 = N + 1 := ⟨_, rfl⟩
  have HN1 := Lib.hid hn1
  have HOL1 : Hid (O.length = n1) := by unfold Hid; omega
  have dz : ((n1 : Int) != (N : Int) + 1) = false := by rw [bne_eq_false_iff_eq]; omega
  have hn20 : n1 ≤ 20 := by omega
  have hN20 : N ≤ 20 := by omega
  clear hO hn1
  have HKI := Lib.hid hkI
  have HPI := Lib.hid hpI
  have HNN := Lib.hid hNN
  have HOL := Lib.hid hOL
  clear hGG hGL hGD hFO hOS HWS hN h1 h2 hk hp hkI hpI hNN hOL
  go_enter Tryz.func4, Tryz.ntmps4
  go_wp2_with fail
  rw [HKI.out, HPI.out]
  refine (HGR.out _).mono ?_
  rintro e w1 ⟨A, c, rfl, s1, b1⟩
  obtain ⟨w2, hw2⟩ : ∃ w2, w2 = w1.alloc (.cells #[.int .i64 k, .int .i64 p, .int .i64 s.size, .slice A N c] 24) := ⟨_, rfl⟩
  have HW2 := Lib.hid hw2.symm
  have b2 : Below w1.heap.size w1 w2 := by rw [hw2]; exact (Below.refl _ _).alloc (Nat.le_refl _) _
  have HV2 : Hid (w2.heap[w1.heap.size]? = some (.cells #[.int .i64 k, .int .i64 p, .int .i64 s.size, .slice A N c] 24 (0, 0))) := by rw [hw2]; exact World.alloc_heap_new _ _
  have HG2 := Lib.hid (s1.below b2 (Nat.le_refl _))
  have HB2 : Hid (Below w.heap.size w w2) := b1.trans (b2.mono b1.size)
  obtain ⟨B, hB⟩ : ∃ B, B = w1.heap.size := ⟨_, rfl⟩
  have HBE := Lib.hid hB.symm
  clear hB
  obtain ⟨x0, x1, x2, x3, _⟩ := cells4b HV2.out
  rw [hw2] at x0 x1 x2 x3
  clear hw2 s1 b1 b2 HGR
  go_wp2_with fail
  rw [HW2.out]
  refine (HPW.out _ _ HG2.out).mono ?_
  rintro e w3 ⟨rfl, b3⟩
  clear x0 x1 x2 x3
  have HB3 := Lib.hid (HB2.out.trans (b3.mono HB2.out.size))
  have HG3 := Lib.hid (HG2.out.below b3 (Nat.le_refl _))
  have HV3 := Lib.hid ((b3.block _ (Array.getElem?_eq_some_iff.1 HV2.out).1).trans HV2.out)
  clear HB2 HG2 HV2 b3
  go_wp2_with fail
  refine (HFW.out _).mono ?_
  rintro e w4 ⟨vo, rfl, so, b4⟩
  have HB4 := Lib.hid (HB3.out.trans (b4.mono HB3.out.size))
  have HG4 := Lib.hid (HG3.out.below b4 (Nat.le_refl _))
  have HV4 := Lib.hid ((b4.block _ (Array.getElem?_eq_some_iff.1 HV3.out).1).trans HV3.out)
  clear HB3 HG3 HV3 b4
  have HO4 := Lib.hid so
  obtain ⟨Ao, co, rfl, _, hcm⟩ := so.len
  rw [HOL1.out] at HO4 ⊢
  rw [HBE.out] at HV4 ⊢
  clear HBE
  obtain ⟨x0, x1, x2, x3, _⟩ := cells4b HV4.out
  clear so HPW HFW HW2 hcm
  go_wp2_with fail
  refine (HP0.out _).mono ?_
  rintro e w5 ⟨rfl, b5⟩
  clear x0 x1 x2 x3
  have HB5 := Lib.hid (HB4.out.trans (b5.mono HB4.out.size))
  have HG5 := Lib.hid (HG4.out.below b5 (Nat.le_refl _))
  have HO5 := Lib.hid (HO4.out.below b5 (Nat.le_refl _))
  have HV5 := Lib.hid ((b5.block _ (Array.getElem?_eq_some_iff.1 HV4.out).1).trans HV4.out)
  clear HB4 HG4 HO4 HV4 b5
  clear HP0 dz
  go_wp2_with fail
  obtain ⟨kp, hkp⟩ : ∃ kp, kp = keptF lost := ⟨_, rfl⟩
  have HKP := Lib.hid hkp
  clear hkp
  have hj30 : junk.size ≤ 30 := by
    have := h2i
    rw [decide_eq_false_iff_not] at this
    omega
  go_loopw [14, 15, 16, 65] (fun t14 t15 t16 i wr => ∃ (j m : Nat) (T : ByteArray), j ≤ n1 ∧ i = .int .i64 j ∧ t15 = .int .i64 m ∧ t14 = .string T ∧ m + ((List.range j).filter kp).length = j ∧ T.size ≤ 30 + j * 1000 ∧ Hid (wr.ownsRow w5.heap.size 9 1 t16 (wantL O kp j).length ((wantL O kp j).map .string)) ∧ w5.heap.size ≤ wr.heap.size ∧ Hid (Below w5.heap.size w5 wr)) (fun _ _ _ i _ => n1 - (intOf i).toNat)
  case atStart => exact ⟨0, 0, junk, Nat.zero_le _, rfl, rfl, rfl, rfl, by omega, World.ownsRow_nil _ _ _ _, Nat.le_refl _, Below.refl _ _⟩
  case round =>
    obtain ⟨j, m, T, hj, rfl, rfl, rfl, hmk, hT, HO, hsz, HB⟩ := hrel
    by_cases hlt : j < n1
    · have hlt' : (j : Int) < (n1 : Int) := by omega
      have hjO : j < O.length := by have := HOL1.out; omega
      obtain ⟨gs, off, rfl, hgs, hcl⟩ := HO5.out.cells (by omega)
      have e1 := (HB.out.cell (p := ⟨gs, off + j, none⟩) hgs).trans (hcl j hjO)
      have hts := HOS.out _ (List.getElem_mem hjO)
      have HWS : Hid (wantL O kp (j + 1) = if kp j = true then wantL O kp j ++ [O[j]] else wantL O kp j) := by
        unfold Hid; rw [wantL_succ, List.getD_eq_getElem?_getD, List.getElem?_eq_getElem hjO]; rfl
      have HKS := Lib.hid (kept_succ kp j)
      have hwl : (wantL O kp j).length ≤ 20 := by
        unfold wantL
        rw [List.length_map]
        have := List.length_filter_le kp (List.range j)
        rw [List.length_range] at this
        omega
      generalize wantL O kp j = WL at *
      generalize O[j] = t at *
      generalize ((List.range j).filter kp).length = q at *
      clear hcl hjO
      by_cases hj0 : 0 < j
      · have hj0i : decide ((j : Int) > 0) = true := by rw [decide_eq_true_iff]; omega
        by_cases hb : bitF lost j = true
        · have hbI : (bits .and .u32 ((lost.toNat : Int) / 2 ^ j) 1 == 1) = true := hb
          have hk1 : ¬ kp j = true := by rw [HKP.out]; unfold keptF; rw [hb, decide_eq_false (by omega)]; simp
          rw [if_neg hk1] at HWS HKS
          clear hk1 hb
          go_wp2_with fail
          go_roundw
          case rel => exact ⟨j + 1, m + 1, T, by omega, by go_num, by go_num, rfl, by rw [HKS.out]; omega, by omega, by rw [HWS.out]; exact HO, hsz, HB⟩
          case measure => simp [intOf]; omega
        · have hbI : (bits .and .u32 ((lost.toNat : Int) / 2 ^ j) 1 == 1) = false := by simpa [bitF] using hb
          have HFr := Lib.hid (fun W => rFrame_any t (by omega) W)
          have HTs : Hid ((fB t.data.toList).size ≤ 600) := by
            unfold Hid fB
            rw [bs_size, fWrap_len _ (by simp; omega)]
            have h3 : t.data.toList.length = t.size := by simp
            have := vPut_len10 t.data.toList.length (by omega)
            omega
          generalize fB t.data.toList = FT at *
          have hk1 : kp j = true := by rw [HKP.out]; unfold keptF; rw [show bitF lost j = false from hbI]; simp
          rw [if_pos hk1] at HWS HKS
          have hft := HTs.out
          have hsz2 : (T ++ (FT ++ junk)).size = T.size + (FT.size + junk.size) := by rw [ByteArray.size_append, ByteArray.size_append]
          have hsz3 : (FT ++ junk).size = FT.size + junk.size := ByteArray.size_append
          clear hk1 HTs
          go_wp2_with fail
          refine (HFr.out _).mono ?_
          rintro e w6 ⟨rfl, b6⟩
          have HB6 : Hid (Below w5.heap.size w5 w6) := HB.out.trans (b6.mono HB.out.size)
          have HO6 : Hid (w6.ownsRow w5.heap.size 9 1 u16 WL.length (WL.map .string)) := HO.out.kept (grown_of_belowS b6 none) (by
            by_cases e : u16.ownBlock = none
            · exact .inl e
            · exact .inr e)
          have hs6 : w5.heap.size ≤ w6.heap.size := HB6.out.size
          have HCL : Hid ((w6.alloc (.cells #[.string t] 9)).cell? ⟨w6.heap.size, 0, none⟩ = some (.string t)) := by
            unfold Hid World.cell?; rw [World.alloc_heap_new]; rfl
          clear b6 HB HO HFr e1
          go_wp2_with (at_builtin; refine wpList_push_str rfl _ _ 37 rfl Tryz.underlying37 w5.heap.size u16 WL rfl (HO6.out.alloc _) ⟨w6.heap.size, 0, none⟩ 1 t rfl HCL.out (by omega) (by simp; omega) ?_)
          intro v' w7 o7 g7
          have HO7 : Hid (w7.ownsRow w5.heap.size 9 1 v' (wantL O kp (j + 1)).length ((wantL O kp (j + 1)).map .string)) := by unfold Hid; rw [HWS.out]; simpa using o7
          have HB7 : Hid (Below w5.heap.size w5 w7) := (HB6.out.alloc hs6 _).grown g7 (by simp; omega) (fun k hk => (HO6.out.lt k hk).1)
          have hs7 : w5.heap.size ≤ w7.heap.size := HB7.out.size
          clear o7 g7 HO6 HB6 HCL
          go_wp2_with fail
          go_roundw
          case rel => exact ⟨j + 1, m, T ++ (FT ++ junk), by omega, by go_num, rfl, rfl, by rw [HKS.out]; omega, by omega, HO7, hs7, HB7⟩
          case measure => simp [intOf]; omega
      · have hj0i : decide ((j : Int) > 0) = false := by rw [decide_eq_false_iff_not]; omega
        have HFr := Lib.hid (fun W => rFrame_any t (by omega) W)
        have HTs : Hid ((fB t.data.toList).size ≤ 600) := by
          unfold Hid fB
          rw [bs_size, fWrap_len _ (by simp; omega)]
          have h3 : t.data.toList.length = t.size := by simp
          have := vPut_len10 t.data.toList.length (by omega)
          omega
        generalize fB t.data.toList = FT at *
        have hk1 : kp j = true := by rw [HKP.out]; unfold keptF; rw [decide_eq_true (by omega)]; rfl
        rw [if_pos hk1] at HWS HKS
        have hft := HTs.out
        have hsz2 : (T ++ (FT ++ junk)).size = T.size + (FT.size + junk.size) := by rw [ByteArray.size_append, ByteArray.size_append]
        have hsz3 : (FT ++ junk).size = FT.size + junk.size := ByteArray.size_append
        clear hk1 HTs
        go_wp2_with fail
        refine (HFr.out _).mono ?_
        rintro e w6 ⟨rfl, b6⟩
        have HB6 : Hid (Below w5.heap.size w5 w6) := HB.out.trans (b6.mono HB.out.size)
        have HO6 : Hid (w6.ownsRow w5.heap.size 9 1 u16 WL.length (WL.map .string)) := HO.out.kept (grown_of_belowS b6 none) (by
          by_cases e : u16.ownBlock = none
          · exact .inl e
          · exact .inr e)
        have hs6 : w5.heap.size ≤ w6.heap.size := HB6.out.size
        have HCL : Hid ((w6.alloc (.cells #[.string t] 9)).cell? ⟨w6.heap.size, 0, none⟩ = some (.string t)) := by
          unfold Hid World.cell?; rw [World.alloc_heap_new]; rfl
        clear b6 HB HO HFr e1
        go_wp2_with (at_builtin; refine wpList_push_str rfl _ _ 37 rfl Tryz.underlying37 w5.heap.size u16 WL rfl (HO6.out.alloc _) ⟨w6.heap.size, 0, none⟩ 1 t rfl HCL.out (by omega) (by simp; omega) ?_)
        intro v' w7 o7 g7
        have HO7 : Hid (w7.ownsRow w5.heap.size 9 1 v' (wantL O kp (j + 1)).length ((wantL O kp (j + 1)).map .string)) := by unfold Hid; rw [HWS.out]; simpa using o7
        have HB7 : Hid (Below w5.heap.size w5 w7) := (HB6.out.alloc hs6 _).grown g7 (by simp; omega) (fun k hk => (HO6.out.lt k hk).1)
        have hs7 : w5.heap.size ≤ w7.heap.size := HB7.out.size
        clear o7 g7 HO6 HB6 HCL
        go_wp2_with fail
        go_roundw
        case rel => exact ⟨j + 1, m, T ++ (FT ++ junk), by omega, by go_num, rfl, rfl, by rw [HKS.out]; omega, by omega, HO7, hs7, HB7⟩
        case measure => simp [intOf]; omega
    · obtain rfl : j = n1 := by omega
      have hj9 : T.size ≤ 1000000 := by omega
      obtain ⟨hwl, hcnt⟩ := HSP.out kp (by rw [HKP.out]; rfl)
      rw [HNE.out, ← HN1.out] at hwl hcnt
      have HWL := Lib.hid hwl
      have HCN : Hid (m + ((List.range N).filter fun i => kp (i + 1)).length = N) := by unfold Hid; have := HN1.out; omega
      clear hwl hcnt hlt hT hmk
      have HG6 := Lib.hid (HG5.out.below HB.out (Nat.le_refl _))
      have HV6 := Lib.hid ((HB.out.block _ (Array.getElem?_eq_some_iff.1 HV5.out).1).trans HV5.out)
      have HB6 : Hid (Below w.heap.size w wr) := HB5.out.trans (HB.out.mono HB5.out.size)
      have HS6 := Lib.hid (StrsB.of_owns HO.out)
      generalize wantL O kp j = WL at *
      clear HB HO hsz HG5 HV5 HB5 HO5 HOS HSP hn20 hN20
      obtain ⟨A6, c6, hs6, _, _⟩ := HS6.out.len
      subst hs6
      have HFT := Lib.hid (fun W => rFrames_any T hj9 W)
      have HRD := Lib.hid (fun W => pread_any T hj9 W)
      generalize framesL T.data.toList = FL at *
      go_wp2_with fail
      refine (HFT.out _).mono ?_
      rintro e w7 ⟨v7, rfl, s7, b7⟩
      have HB7 := Lib.hid (HB6.out.trans (b7.mono HB6.out.size))
      have HG7 := Lib.hid (HG6.out.below b7 (Nat.le_refl _))
      have HS7 := Lib.hid (HS6.out.below b7 (Nat.le_refl _))
      have HV7 := Lib.hid ((b7.block _ (Array.getElem?_eq_some_iff.1 HV6.out).1).trans HV6.out)
      have HT7 := Lib.hid s7
      clear HB6 HG6 HS6 HV6 s7 b7 HFT
      obtain ⟨A7, c7, rfl, _, _⟩ := HT7.out.len
      go_wp2_with fail
      refine (same_any _ _ _ FL WL HT7.out HS7.out).mono ?_
      rintro e w8 ⟨rfl, n8, rfl⟩
      have hlow : Below w7.heap.size w7 (w7.drewN n8) := below_drewN (Below.refl _ _) _
      have HB8 := Lib.hid (HB7.out.trans (hlow.mono HB7.out.size))
      have HG8 := Lib.hid (HG7.out.below hlow (Nat.le_refl _))
      have HV8 := Lib.hid ((hlow.block _ (Array.getElem?_eq_some_iff.1 HV7.out).1).trans HV7.out)
      generalize w7.drewN n8 = w8 at *
      clear HB7 HG7 HV7 hlow HT7 HS7
      have HSM := Lib.hid (show sameB FL WL = true → FL = WL from fun h => of_decide_eq_true h)
      cases hsm : sameB FL WL with
      | false =>
        clear hsm HRD HSM
        go_wp2_with fail
        refine (HAW.out _).mono ?_
        rintro e wz ⟨rfl, bz⟩
        have HZ := Lib.hid (HB8.out.trans (bz.mono HB8.out.size))
        clear bz
        go_wp2_with fail
        go_ret
        exact ⟨rfl, HZ.out⟩
      | true =>
        have hfw := HSM.out hsm
        subst hfw
        rw [HWL.out] at HRD
        clear hsm HSM
        obtain ⟨js, hjs⟩ : ∃ js, js = (List.range N).filter fun i => kp (i + 1) := ⟨_, rfl⟩
        have hjN : ∀ j ∈ js, j < N := fun j hj => by rw [hjs] at hj; simpa using (List.mem_filter.1 hj).1
        have hnd : js.Nodup := by rw [hjs]; exact List.nodup_range.sublist List.filter_sublist
        obtain ⟨g, hg1, hg2⟩ := HRM.out js hnd (fun j hj => by rw [HNE.out]; exact hjN j hj)
        rw [← hjs] at HRD HCN
        rw [hg1] at HRD
        have hgf : ((List.range (k + p)).filter g) = js := by
          rw [← HNN.out]
          have e : (List.range N).filter g = (List.range N).filter fun i => kp (i + 1) := List.filter_congr (fun i hi => by
            rw [hg2 i, hjs]
            have hi' : i < N := by simpa using hi
            cases h : kp (i + 1) <;> simp [h, hi'])
          rw [e, hjs]
        obtain ⟨ht5, ht0⟩ := HRT.out g m (by rw [hgf, ← HNN.out]; exact HCN.out)
        have HFULL : Hid (m = 0 → maskS G g = G) := fun h0 => maskS_full G g (fun i hi => by
          have hl : js.length = N := by have := HCN.out; omega
          rw [hjs] at hl
          have he := List.length_filter_eq_length_iff.1 (hl.trans (List.length_range (n := N)).symm)
          have hi' : i < N := by rw [← HNE.out]; exact hi
          rw [hg2 i, hjs]
          simpa [hi'] using he i (by simpa using hi'))
        have hLG : ∀ x ∈ maskS G g, x.2.1.size ≤ 300 ∧ x.2.2.size = 32 := fun x hx => by
          obtain ⟨i, hi, rfl⟩ := List.mem_iff_getElem.1 hx
          have hi' : i < G.length := by rwa [maskS_len] at hi
          have e := maskS_get G g i hi'
          rw [List.getElem?_eq_getElem hi, Option.some.injEq] at e
          rw [e]
          refine ⟨?_, HGS.out G[i] (List.getElem_mem hi')⟩
          dsimp only
          split
          · exact HGD.out G[i] (List.getElem_mem hi')
          · decide
        have hLN : (maskS G g).length = N := by rw [maskS_len]; exact HNE.out
        have hfit := HFM.out g
        obtain ⟨L, hL⟩ : ∃ L, L = maskS G g := ⟨_, rfl⟩
        rw [← hL] at hLG hLN hfit HRD HFULL ht5 ht0
        have HLN := Lib.hid hLN
        have HTX : Hid (∃ TE TB, (TE = textE k s.size L ∧ TB = textB k s.size L) ∧ ((0 < s.size ∧ p < m ∧ TE = 5) ∨ (¬ (0 < s.size ∧ p < m) ∧ TE = 0 ∧ TB = s))) := by
          refine ⟨_, _, ⟨rfl, rfl⟩, ?_⟩
          by_cases hA : 0 < s.size ∧ p < m
          · have h5 := ht5 hA.1 hA.2
            exact .inl ⟨hA.1, hA.2, by unfold textE; rw [h5, if_neg (by decide)]⟩
          · obtain ⟨h0, hv⟩ := ht0 (by omega)
            refine .inr ⟨hA, ?_, ?_⟩
            · unfold textE; rw [if_pos h0, hv]; exact HJS.out.1
            · unfold textB; rw [if_pos h0, hv]; exact HJS.out.2
        have HTA := Lib.hid (fun W v (h : ShdB W v L) => text_any W k p s.size v L h hfit (by have := HNN.out; omega) (fun x hx => ⟨by have := (hLG x hx).1; omega, by have := (hLG x hx).2; omega⟩) (fun h0 => by
          by_cases hA : 0 < s.size ∧ p < m
          · have h5 := ht5 hA.1 hA.2
            rw [h5] at h0; exact absurd h0 (by decide)
          · obtain ⟨_, hv⟩ := ht0 (by omega)
            rw [hv]; exact HCS.out))
        have HSA := Lib.hid (fun W va vb (h1 : ShdB W va G) (h2 : ShdB W vb G) => rsame_self W k p s.size va vb G h1 h2)
        obtain ⟨TE, TB, ⟨hte, htb⟩, hcase⟩ := HTX.out
        have HCASE := Lib.hid hcase
        rw [← hte, ← htb] at HTA
        have hm9 : m ≤ 20 := by have := HCN.out; have := HNN.out; omega
        clear hcase hte htb HTX ht5 ht0 hLG hLN hfit hL hg1 hg2 hgf hjs hjN hnd HRM HRT HFM HGS HGD HJS HCS HCN HKP HWL
        go_wp2_with fail
        refine (HRD.out _).mono ?_
        rintro e w9 ⟨hpst, b9⟩
        obtain ⟨g1, cap1, rfl, hr, hc1, hm1, _⟩ := hpst.2 k p s.size L g rfl
        have HL9 : Hid (ShdB w9 (.slice (some ⟨g1, 0, none⟩) N cap1) L) := by have h := hr.shdB hc1 hm1; rw [HLN.out] at h; exact h
        rw [HLN.out]
        have HB9 := Lib.hid (HB8.out.trans (b9.mono HB8.out.size))
        have HG9 := Lib.hid (HG8.out.below b9 (Nat.le_refl _))
        have HV9 := Lib.hid ((b9.block _ (Array.getElem?_eq_some_iff.1 HV8.out).1).trans HV8.out)
        clear HB8 HG8 HV8 b9 hpst hr hc1 hm1 HRD HLN
        obtain ⟨w10, hw10⟩ : ∃ w10, w10 = w9.alloc (.cells #[.int .i64 k, .int .i64 p, .int .i64 s.size, .slice (some ⟨g1, 0, none⟩) N cap1] 24) := ⟨_, rfl⟩
        have HW10 := Lib.hid hw10.symm
        have b10 : Below w9.heap.size w9 w10 := by rw [hw10]; exact (Below.refl _ _).alloc (Nat.le_refl _) _
        have HP10 : Hid (w10.heap[w9.heap.size]? = some (.cells #[.int .i64 k, .int .i64 p, .int .i64 s.size, .slice (some ⟨g1, 0, none⟩) N cap1] 24 (0, 0))) := by rw [hw10]; exact World.alloc_heap_new _ _
        have HB10 := Lib.hid (HB9.out.trans (b10.mono HB9.out.size))
        have HG10 := Lib.hid (HG9.out.below b10 (Nat.le_refl _))
        have HL10 := Lib.hid (HL9.out.below b10 (Nat.le_refl _))
        have HV10 := Lib.hid ((b10.block _ (Array.getElem?_eq_some_iff.1 HV9.out).1).trans HV9.out)
        obtain ⟨x0, x1, x2, x3, _⟩ := cells4b HV10.out
        obtain ⟨y0, y1, y2, y3, _⟩ := cells4b HP10.out
        clear hw10 b10 HB9 HG9 HV9 HL9
        rw [← HW10.out] at x0 x1 x2 x3 y0 y1 y2 y3
        go_wp2_with fail
        rw [HW10.out] at x0 x1 x2 x3 y0 y1 y2 y3 ⊢
        refine (HTA.out _ _ HL10.out).mono ?_
        rintro e w11 ⟨rfl, b11⟩
        have HB11 := Lib.hid (HB10.out.trans (b11.mono HB10.out.size))
        have HG11 := Lib.hid (HG10.out.below b11 (Nat.le_refl _))
        have HL11 := Lib.hid (HL10.out.below b11 (Nat.le_refl _))
        have HV11 := Lib.hid ((b11.block _ (Array.getElem?_eq_some_iff.1 HV10.out).1).trans HV10.out)
        have HP11 := Lib.hid ((b11.block _ (Array.getElem?_eq_some_iff.1 HP10.out).1).trans HP10.out)
        clear x0 x1 x2 x3 y0 y1 y2 y3 b11 HB10 HG10 HL10 HV10 HP10 HTA HW10
        obtain ⟨x0, x1, x2, x3, _⟩ := cells4b HV11.out
        obtain ⟨y0, y1, y2, y3, _⟩ := cells4b HP11.out
        by_cases hm0 : m = 0
        · have hm0i : ((m : Int) == 0) = true := by rw [beq_iff_eq]; omega
          have hLG := HFULL.out hm0
          clear HFULL
          subst hLG
          go_wp2_with fail
          refine (HSA.out _ _ _ HL11.out HG11.out).mono ?_
          rintro e w12 ⟨rfl, b12⟩
          have HB12 := Lib.hid (HB11.out.trans (b12.mono HB11.out.size))
          have HV12 := Lib.hid ((b12.block _ (Array.getElem?_eq_some_iff.1 HV11.out).1).trans HV11.out)
          have HP12 := Lib.hid ((b12.block _ (Array.getElem?_eq_some_iff.1 HP11.out).1).trans HP11.out)
          clear x0 x1 x2 x3 y0 y1 y2 y3 b12 HB11 HG11 HL11 HV11 HP11 HSA
          obtain ⟨x0, x1, x2, x3, _⟩ := cells4b HV12.out
          obtain ⟨y0, y1, y2, y3, _⟩ := cells4b HP12.out
          have hbs := str_beq_self s
          rcases HCASE.out with ⟨hA1, hA2, hA3⟩ | ⟨hA1, hA2, hA3⟩
          · omega
          · subst hA2
            subst hA3
            clear HCASE
            by_cases hs1' : 0 < TB.size
            · have hs1 : decide ((TB.size : Int) > 0) = true := by rw [decide_eq_true_iff]; omega
              have hmp : decide ((m : Int) > (p : Int)) = false := by rw [decide_eq_false_iff_not]; omega
              have hmp' : ¬ p < m := by omega
              clear hA1
              go_wp2_with fail
              refine (HAW.out _).mono ?_
              rintro e wz ⟨rfl, bz⟩
              have HZ := Lib.hid (HB12.out.trans (bz.mono HB12.out.size))
              clear bz
              go_wp2_with fail
              go_ret
              exact ⟨rfl, HZ.out⟩
            · have hs1 : decide ((TB.size : Int) > 0) = false := by rw [decide_eq_false_iff_not]; omega
              by_cases hmp' : p < m
              · omega
              · have hmp : decide ((m : Int) > (p : Int)) = false := by rw [decide_eq_false_iff_not]; omega
                clear hA1
                go_wp2_with fail
                refine (HAW.out _).mono ?_
                rintro e wz ⟨rfl, bz⟩
                have HZ := Lib.hid (HB12.out.trans (bz.mono HB12.out.size))
                clear bz
                go_wp2_with fail
                go_ret
                exact ⟨rfl, HZ.out⟩
        · have hm0i : ((m : Int) == 0) = false := by rw [beq_eq_false_iff_ne]; omega
          clear hm0 HFULL HSA
          have hbs := str_beq_self s
          rcases HCASE.out with ⟨hA1, hA2, hA3⟩ | ⟨hA1, hA2, hA3⟩
          · subst hA3
            have hs1 : decide ((s.size : Int) > 0) = true := by rw [decide_eq_true_iff]; omega
            have hmp : decide ((m : Int) > (p : Int)) = true := by rw [decide_eq_true_iff]; omega
            clear HCASE
            go_wp2_with fail
            refine (HAW.out _).mono ?_
            rintro e wz ⟨rfl, bz⟩
            have HZ := Lib.hid (HB11.out.trans (bz.mono HB11.out.size))
            clear bz
            go_wp2_with fail
            go_ret
            exact ⟨rfl, HZ.out⟩
          · subst hA2
            subst hA3
            clear HCASE
            by_cases hs1' : 0 < TB.size
            · have hs1 : decide ((TB.size : Int) > 0) = true := by rw [decide_eq_true_iff]; omega
              have hmp : decide ((m : Int) > (p : Int)) = false := by rw [decide_eq_false_iff_not]; omega
              have hmp' : ¬ p < m := by omega
              clear hA1
              go_wp2_with fail
              refine (HAW.out _).mono ?_
              rintro e wz ⟨rfl, bz⟩
              have HZ := Lib.hid (HB11.out.trans (bz.mono HB11.out.size))
              clear bz
              go_wp2_with fail
              go_ret
              exact ⟨rfl, HZ.out⟩
            · have hs1 : decide ((TB.size : Int) > 0) = false := by rw [decide_eq_false_iff_not]; omega
              by_cases hmp' : p < m
              · have hmp : decide ((m : Int) > (p : Int)) = true := by rw [decide_eq_true_iff]; omega
                clear hA1
                go_wp2_with fail
                refine (HAW.out _).mono ?_
                rintro e wz ⟨rfl, bz⟩
                have HZ := Lib.hid (HB11.out.trans (bz.mono HB11.out.size))
                clear bz
                go_wp2_with fail
                go_ret
                exact ⟨rfl, HZ.out⟩
              · have hmp : decide ((m : Int) > (p : Int)) = false := by rw [decide_eq_false_iff_not]; omega
                clear hA1
                go_wp2_with fail
                refine (HAW.out _).mono ?_
                rintro e wz ⟨rfl, bz⟩
                have HZ := Lib.hid (HB11.out.trans (bz.mono HB11.out.size))
                clear bz
                go_wp2_with fail
                go_ret
                exact ⟨rfl, HZ.out⟩
theorem scrubRuins_ok (W : World) (x0 : ByteArray) (w0 : x0.size ≤ 140737488351232) (x1 : UInt8) (x2 : UInt8) (x3 : ByteArray) (w3 : x3.size ≤ 140737488351232) (x4 : UInt32) :
    Calls Tryz.prog 4 #[.string x0, .int .u8 x1.toNat, .int .u8 x2.toNat, .string x3, .int .u32 x4.toNat] W fun e w' => e = .returned (.bool true) ∧ Below W.heap.size W w' :=
  ruins_core W x0 x3 x1 x2 x4 w0 w3
end Go.Proofs.YtfpofcfoeajkiaaGreat
