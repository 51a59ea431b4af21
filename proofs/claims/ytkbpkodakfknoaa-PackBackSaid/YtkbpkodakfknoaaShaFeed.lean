/- feed: its walk. -/
import Derived.Test.YtkbpkodakfknoaaShaTake
namespace Go.Proofs.Ytkbpkodakfknoaa
open Go.RowKit
set_option linter.unusedVariables false
/-- what a feeder holds -/
structure St where
  f : Nat → UInt32
  n : Nat
  part : Nat → UInt8
def updB (f : Nat → UInt8) (j : Nat) (v : UInt8) (i : Nat) : UInt8 := if i = j then v else f i
def partL (g : Nat → UInt8) : List UInt8 := (List.range 64).map g
theorem partL_len (g : Nat → UInt8) : (partL g).length = 64 := by simp [partL]
theorem partL_bytes (g : Nat → UInt8) : bytesOf 64 (fun i => (partL g).getD i 0) = bytesOf 64 g := by
  unfold bytesOf
  have : ∀ j, j < 64 → (partL g).getD j 0 = g j := fun j hj => by simp [partL, hj]
  have h2 : (List.range 64).map (fun j => Value.int .u8 ((partL g).getD j 0).toNat) = (List.range 64).map (fun j => Value.int .u8 (g j).toNat) := List.map_congr_left fun j hj => by rw [this j (by simpa using hj)]
  exact congrArg List.toArray h2
/-- one byte -/
def feed1 (S : St) (c : UInt8) : St :=
  if S.n % 64 = 63 then ⟨blockF S.f (partL (updB S.part (S.n % 64) c)), S.n + 1, updB S.part (S.n % 64) c⟩ else ⟨S.f, S.n + 1, updB S.part (S.n % 64) c⟩
def feedL (S : St) (l : List UInt8) : St := l.foldl feed1 S
theorem feedL_snoc (S : St) (l : List UInt8) (c : UInt8) : feedL S (l ++ [c]) = feed1 (feedL S l) c := by simp [feedL]
theorem feedL_append (S : St) (l m : List UInt8) : feedL S (l ++ m) = feedL (feedL S l) m := by simp [feedL]
theorem feed1_n (S : St) (c : UInt8) : (feed1 S c).n = S.n + 1 := by unfold feed1; split <;> rfl
theorem feedL_n (S : St) : ∀ l, (feedL S l).n = S.n + l.length := by
  intro l
  induction l generalizing S with
  | nil => rfl
  | cons c l ih =>
    show (feedL (feed1 S c) l).n = _
    rw [ih, feed1_n, List.length_cons]; omega
def FeedS (w : World) (p : Nat) (S : St) : Prop := Feed w p S.f S.n S.part
theorem Feed.size {w : World} {p : Nat} {f : Nat → UInt32} {n : Nat} {part : Nat → UInt8} (h : Feed w p f n part) (m : Nat) : Feed (w.setCell ⟨p, 8, none⟩ (.int .u64 m)) p f m part := by
  have hl : (cellsOf 8 f).toList.length = 8 := by rw [Array.length_toList, cellsOf_size]
  refine ⟨fun j v hj => ?_, World.cell?_setCell_same _ _ _ h.s, fun j v hj => ?_, fun j hj => ?_⟩
  · have : j < 8 := by rw [← hl]; exact (List.getElem?_eq_some_iff.1 hj).1
    rw [World.cell?_setCell_other _ _ _ _ (by intro e; injection e with _ e; omega)]
    exact h.h j v hj
  · rw [World.cell?_setCell_other _ _ _ _ (by intro e; injection e with _ e; omega)]
    exact h.b j v hj
  · obtain ⟨h1, h2⟩ := h.t j hj
    refine ⟨?_, by rw [World.frozen?_setCell]; exact h2⟩
    by_cases e : 8 = j
    · subst e; rw [Nat.zero_add, World.cell?_setCell_same _ _ _ h.s]; rfl
    · rw [World.cell?_setCell_other _ _ _ _ (by intro e'; injection e' with _ e'; omega)]; exact h1
theorem Feed.put {w : World} {p : Nat} {f : Nat → UInt32} {n : Nat} {part : Nat → UInt8} (h : Feed w p f n part) (k : Nat) (hk : k < 64) (c : UInt8) : Feed (w.setCell ⟨p, 9 + k, none⟩ (.int .u8 c.toNat)) p f n (updB part k c) := by
  have hl : (cellsOf 8 f).toList.length = 8 := by rw [Array.length_toList, cellsOf_size]
  have hb : ∀ g : Nat → UInt8, ∀ j, j < 64 → (bytesOf 64 g).toList[j]? = some (.int .u8 (g j).toNat) := fun g j hj => by
    have := bytesOf_get g hj
    simpa using this
  have hk0 := h.b k _ (hb part k hk)
  refine ⟨fun j v hj => ?_, ?_, fun j v hj => ?_, fun j hj => ?_⟩
  · have : j < 8 := by rw [← hl]; exact (List.getElem?_eq_some_iff.1 hj).1
    rw [World.cell?_setCell_other _ _ _ _ (by intro e; injection e with _ e; omega)]
    exact h.h j v hj
  · rw [World.cell?_setCell_other _ _ _ _ (by intro e; injection e with _ e; omega)]
    exact h.s
  · have hj64 : j < 64 := by
      have := (List.getElem?_eq_some_iff.1 hj).1
      rw [Array.length_toList, bytesOf_size] at this; exact this
    rw [hb _ j hj64] at hj
    injection hj with hj
    subst hj
    unfold updB
    by_cases e : j = k
    · subst e; rw [if_pos rfl, World.cell?_setCell_same _ _ _ hk0]
    · rw [if_neg e, World.cell?_setCell_other _ _ _ _ (by intro e'; injection e' with _ e'; omega)]
      exact h.b j _ (hb part j hj64)
  · obtain ⟨h1, h2⟩ := h.t j hj
    refine ⟨?_, by rw [World.frozen?_setCell]; exact h2⟩
    by_cases e : 9 + k = j
    · subst e; rw [Nat.zero_add, World.cell?_setCell_same _ _ _ hk0]; rfl
    · rw [World.cell?_setCell_other _ _ _ _ (by intro e'; injection e' with _ e'; omega)]; exact h1
theorem Feed.at {w : World} {p : Nat} {f : Nat → UInt32} {n : Nat} {part : Nat → UInt8} (h : Feed w p f n part) (k : Nat) (hk : k < 64) : w.cell? ⟨p, 9 + k, none⟩ = some (.int .u8 (part k).toNat) := by
  apply h.b k
  have := bytesOf_get part hk
  simpa using this
theorem grown_setCell (w : World) (p o : Nat) (v : Value) : w.grownBy (w.setCell ⟨p, o, none⟩ v) (some p) :=
  ⟨rfl, rfl, rfl, by simp, fun i hi hne => heap_setCell_other w _ i v (fun e => hne (by rw [e]))⟩
theorem grown_drew {a w : World} {row : Option Nat} (h : a.grownBy w row) : a.grownBy w.drew row := ⟨h.os, h.tape, h.output, h.size, h.block⟩
set_option maxRecDepth 20000 in
set_option maxHeartbeats 4000000 in
theorem feed_any (p : Nat) (S : St) (s : ByteArray) (w : World) (hF : FeedS w p S) (hn : S.n + s.size ≤ 1000000000000) :
    Calls Try.prog 70 #[.pointer (some ⟨p, 0, none⟩), .string s] w fun e w' => e = .returned (.tuple #[]) ∧ FeedS w' p (feedL S s.data.toList) ∧ w.grownBy w' (some p) := by
  have HF := Lib.hid hF; clear hF
  go_enter Try.func70, Try.ntmps70
  go_wp2_with fail
  go_loopw [8] (fun i wr => ∃ k : Nat, k ≤ s.size ∧ i = .int .i64 k ∧ Hid (FeedS wr p (feedL S (s.data.toList.take k))) ∧ Hid (w.grownBy wr (some p))) (fun i _ => s.size - (intOf i).toNat)
  case atStart => exact ⟨0, Nat.zero_le _, rfl, HF.out, World.grownBy.refl w _⟩
  case round =>
    obtain ⟨k, hk, rfl, HR, HG⟩ := hrel
    by_cases hlt : k < s.size
    · have HT := Lib.hid (take_snoc s k hlt)
      obtain ⟨c, gc⟩ : ∃ c, ∀ h, s[k]'h = c := ⟨s[k], fun _ => rfl⟩
      have HN : Hid (feedL S (s.data.toList.take (k + 1)) = feed1 (feedL S (s.data.toList.take k)) c) := by
        unfold Hid; rw [HT.out, gc hlt, feedL_snoc]
      have hTn : (feedL S (s.data.toList.take k)).n ≤ 1000000000000 := by
        rw [feedL_n, List.length_take]; omega
      generalize feedL S (s.data.toList.take k) = T at *
      obtain ⟨f, n, part⟩ := T
      dsimp only at hTn
      have hF0 : Feed wr p f n part := HR.out
      have e8 := hF0.s
      have hm : n % 64 < 64 := Nat.mod_lt _ (by decide)
      have eP := hF0.at (n % 64) hm
      have fP : wr.frozen? ⟨p, 9 + n % 64, none⟩ = false := by have := (hF0.t (9 + n % 64) (by omega)).2; rw [Nat.zero_add] at this; exact this
      have f8 : wr.frozen? ⟨p, 8, none⟩ = false := by have := (hF0.t 8 (by omega)).2; rw [Nat.zero_add] at this; exact this
      have r1 : (n : Int) % 64 = ((n % 64 : Nat) : Int) := by omega
      have HF2 := Lib.hid ((hF0.put (n % 64) hm c).size (n + 1))
      have HFx := Lib.hid (hF0.put (n % 64) hm c)
      have HG2 : Hid (w.grownBy (((wr.setCell ⟨p, 9 + n % 64, none⟩ (.int .u8 c.toNat))).setCell ⟨p, 8, none⟩ (.int .u64 ((n + 1 : Nat) : Int))) (some p)) := grown_then (grown_then HG.out (grown_setCell _ _ _ _)) (grown_setCell _ _ _ _)
      clear hF0 HR
      generalize hq : n % 64 = q at *
      have HQ := Lib.hid hq; clear hq
      have lq : (q : Int) < 64 := by omega
      have pq : (0 : Int) ≤ (q : Int) := by omega
      have k0 : (0 : Int) ≤ (k : Int) := by omega
      have k1 : (k : Int) < (s.size : Int) := by omega
      by_cases h63 : q = 63
      · have z1 : ((q : Int) == 63) = true := by rw [beq_iff_eq]; omega
        have z2 : ((n : Int) % 64 == 63) = true := by rw [beq_iff_eq]; omega
        have HS : Hid (feed1 ⟨f, n, part⟩ c = ⟨blockF f (partL (updB part q c)), n + 1, updB part q c⟩) := by
          unfold Hid feed1; dsimp only; rw [HQ.out, if_pos h63]
        have H63 := Lib.hid h63; clear h63
        go_wp2_with fail
        go_region
        have HFx' : Hid (FeedS (wr.setCell ⟨p, 9 + q, none⟩ (.int .u8 c.toNat)).drew p ⟨f, n, updB part q c⟩) := Feed.drew HFx.out
        have HG' : Hid (w.grownBy (wr.setCell ⟨p, 9 + q, none⟩ (.int .u8 c.toNat)).drew (some p)) := grown_drew (grown_then HG.out (grown_setCell _ _ _ _))
        clear HFx HG HF2 HG2
        obtain ⟨w3, e3⟩ : ∃ w3, w3 = (wr.setCell ⟨p, 9 + q, none⟩ (.int .u8 c.toNat)).drew := ⟨_, rfl⟩
        rw [← e3] at HFx' HG' ⊢
        have e9 : w3.cell? ⟨p, 8, none⟩ = some (.int .u64 n) := HFx'.out.s
        have f9 : w3.frozen? ⟨p, 8, none⟩ = false := by have := (HFx'.out.t 8 (by omega)).2; rw [Nat.zero_add] at this; exact this
        have HF2 : Hid (FeedS (w3.setCell ⟨p, 8, none⟩ (.int .u64 ((n + 1 : Nat) : Int))) p ⟨f, n + 1, updB part q c⟩) := Feed.size HFx'.out (n + 1)
        have HG2 : Hid (w.grownBy (w3.setCell ⟨p, 8, none⟩ (.int .u64 ((n + 1 : Nat) : Int))) (some p)) := grown_then HG'.out (grown_setCell _ _ _ _)
        clear e3 e8 f8 eP fP
        go_wp2_with fail
        obtain ⟨w4, e4⟩ : ∃ w4, w4 = (w3.setCell ⟨p, 8, none⟩ (.int .u64 ((n + 1 : Nat) : Int))) := ⟨_, rfl⟩
        have e5 : w4 = (w3.setCell ⟨p, 8, none⟩ (.int .u64 ((n : Int) + 1))) := e4
        rw [← e4] at HF2 HG2
        rw [← e5]
        clear e4 e5 HFx' HG' e9 f9
        have HT4 : Hid (∀ w' : World, FeedS w' p ⟨f, n + 1, updB part q c⟩ → Calls Try.prog 74 #[.pointer (some ⟨p, 0, none⟩), .agg (bytesOf 64 (updB part q c))] w' fun e w'' => e = .returned (.tuple #[]) ∧ Feed w'' p (blockF f (partL (updB part q c))) (n + 1) (updB part q c) ∧ w'.grownBy w'' (some p)) := by
          intro w' h'
          have := shTake_any p f (n + 1) (updB part q c) (partL (updB part q c)) (partL_len _) w' h'
          rwa [partL_bytes] at this
        generalize blockF f (partL (updB part q c)) = G at *
        obtain ⟨B, hB⟩ : ∃ B, B = bytesOf 64 (updB part q c) := ⟨_, rfl⟩
        rw [← hB] at HT4
        have hlB : (Try.prog.info? 77).map (·.size) = some B.toList.length := by rw [Array.length_toList, hB, bytesOf_size]; kernel_rfl
        have HlB := Lib.hid hlB; clear hlB
        have HRB : Hid (w4.drew.rangeAt p 9 B.toList) := by rw [hB]; exact HF2.out.b
        have HFd : Hid (FeedS w4.drew p ⟨f, n + 1, updB part q c⟩) := Feed.drew HF2.out
        have HGd : Hid (w.grownBy w4.drew (some p)) := grown_drew HG2.out
        clear hB HF2 HG2
        refine wp_region_still_tail 7 (by kernel_rfl) (by kernel_rfl) ?_
        simp only [List.take_succ_cons, List.take_zero, List.drop_succ_cons, List.drop_zero]
        change wpStill _ _ w4.drew _ _ _
        obtain ⟨w5, hw5⟩ : ∃ w5, w5 = w4.drew := ⟨_, rfl⟩
        rw [← hw5] at HRB HFd HGd ⊢
        have HW5 := Lib.hid hw5; clear hw5
        still_step
        still_step
        still_step
        still_step
        still_step
        still_step
        refine wpStill_load_mid (by rfl) 77 _ rfl p 9 rfl B.toList _ HRB.out Try.underlying77 rfl HlB.out ?_
        refine wpStill_nil ?_
        change wpList _ _ _ _ _ w4.drew
        rw [← HW5.out]
        go_wp2_with fail
        go_at_call 74
        refine (HT4.out _ HFd.out).mono ?_
        rintro e w6 ⟨rfl, b6, g6⟩
        have HF6 := Lib.hid b6; clear b6
        have HG6 : Hid (w.grownBy w6 (some p)) := grown_then HGd.out g6
        clear g6
        go_wp2
        go_roundw
        case rel => exact ⟨k + 1, hlt, by go_num, by rw [HN.out, HS.out]; exact HF6, HG6⟩
        case measure => simp [intOf]; omega
      · have z1 : ((q : Int) == 63) = false := by rw [beq_eq_false_iff_ne]; omega
        have z2 : ((n : Int) % 64 == 63) = false := by rw [beq_eq_false_iff_ne]; omega
        have HS : Hid (feed1 ⟨f, n, part⟩ c = ⟨f, n + 1, updB part q c⟩) := by
          unfold Hid feed1; dsimp only; rw [HQ.out, if_neg h63]
        go_wp2_with fail
        go_region
        have HFx' : Hid (FeedS (wr.setCell ⟨p, 9 + q, none⟩ (.int .u8 c.toNat)).drew p ⟨f, n, updB part q c⟩) := Feed.drew HFx.out
        have HG' : Hid (w.grownBy (wr.setCell ⟨p, 9 + q, none⟩ (.int .u8 c.toNat)).drew (some p)) := grown_drew (grown_then HG.out (grown_setCell _ _ _ _))
        clear HFx HG HF2 HG2
        obtain ⟨w3, e3⟩ : ∃ w3, w3 = (wr.setCell ⟨p, 9 + q, none⟩ (.int .u8 c.toNat)).drew := ⟨_, rfl⟩
        rw [← e3] at HFx' HG' ⊢
        have e9 : w3.cell? ⟨p, 8, none⟩ = some (.int .u64 n) := HFx'.out.s
        have f9 : w3.frozen? ⟨p, 8, none⟩ = false := by have := (HFx'.out.t 8 (by omega)).2; rw [Nat.zero_add] at this; exact this
        have HF2 : Hid (FeedS (w3.setCell ⟨p, 8, none⟩ (.int .u64 ((n + 1 : Nat) : Int))) p ⟨f, n + 1, updB part q c⟩) := Feed.size HFx'.out (n + 1)
        have HG2 : Hid (w.grownBy (w3.setCell ⟨p, 8, none⟩ (.int .u64 ((n + 1 : Nat) : Int))) (some p)) := grown_then HG'.out (grown_setCell _ _ _ _)
        clear e3 e8 f8 eP fP
        go_wp2_with fail
        go_roundw
        case rel => exact ⟨k + 1, hlt, by go_num, by rw [HN.out, HS.out]; exact HF2, HG2⟩
        case measure => simp [intOf]; omega
    · obtain rfl : k = s.size := by omega
      have hv : s.data.toList.take s.size = s.data.toList := take_all s _ (Nat.le_refl _)
      have HV := Lib.hid hv; clear hv
      go_wp2
      go_end0
      exact ⟨rfl, by have h := HR.out; rw [HV.out] at h; exact h, HG.out⟩
end Go.Proofs.Ytkbpkodakfknoaa
