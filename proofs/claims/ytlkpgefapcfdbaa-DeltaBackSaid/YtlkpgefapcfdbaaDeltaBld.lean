/- strings.Builder, alone or at the head of a struct: copyCheck, WriteString, Write, Len, String. -/
import Derived.Test.YtlkpgefapcfdbaaBuilder
namespace Go.Proofs.Ytlkpgefapcfdbaa
open Go.RowKit
set_option linter.unusedVariables false
set_option linter.unusedSimpArgs false
/-- block b holds a builder, and rest behind it -/
structure EB (T : TypeId) (rest : List Value) (B : Nat) (w : World) (b : Nat) (p v : Value) (l : List UInt8) : Prop where
  blk : w.heap[b]? = some (.cells (p :: v :: rest).toArray T (0, 0))
  own : w.ownsRow B 5 1 v l.length (Lib.byteCells l)
  ne : v.ownBlock ≠ some b
  self : p = .pointer none ∨ p = .pointer (some ⟨b, 0, none⟩)
  nil : l = [] → v = .slice none 0 0
/-- all but block b and one other are as they were -/
structure Two (w w' : World) (b : Nat) (ob : Option Nat) : Prop where
  os : w'.os = w.os
  tape : w'.tape = w.tape
  output : w'.output = w.output
  size : w.heap.size ≤ w'.heap.size
  block : ∀ k, k < w.heap.size → k ≠ b → some k ≠ ob → w'.heap[k]? = w.heap[k]?
theorem Two.below {w w' : World} {b B : Nat} {ob : Option Nat} (h : Two w w' b ob) (hb : B ≤ b) (ho : ∀ g, ob = some g → B ≤ g) (hB : B ≤ w.heap.size) : Below B w w' :=
  ⟨h.os, h.tape, h.output, h.size, fun k hk => h.block k (by omega) (by omega) (fun e => by have := ho k e.symm; omega)⟩
theorem EB.c0 {T : TypeId} {rest : List Value} {B : Nat} {w : World} {b : Nat} {p v : Value} {l : List UInt8} (h : EB T rest B w b p v l) : w.cell? ⟨b, 0, none⟩ = some p := by rw [Lib.cell_of_heap h.blk]; rfl
theorem EB.c1 {T : TypeId} {rest : List Value} {B : Nat} {w : World} {b : Nat} {p v : Value} {l : List UInt8} (h : EB T rest B w b p v l) : w.cell? ⟨b, 1, none⟩ = some v := by rw [Lib.cell_of_heap h.blk]; rfl
theorem EB.shape {T : TypeId} {rest : List Value} {B : Nat} {w : World} {b : Nat} {p v : Value} {l : List UInt8} (h : EB T rest B w b p v l) : w.shape? b = some (T, rest.length + 2) := by
  unfold World.shape?; rw [h.blk]; simp
theorem EB.lt {T : TypeId} {rest : List Value} {B : Nat} {w : World} {b : Nat} {p v : Value} {l : List UInt8} (h : EB T rest B w b p v l) : b < w.heap.size := by
  rcases Nat.lt_or_ge b w.heap.size with h' | h'
  · exact h'
  · have := h.blk; simp [Array.getElem?_eq_none h'] at this
theorem two_set (w : World) (b o : Nat) (x : Value) : w.grownBy (w.setCell ⟨b, o, none⟩ x) (some b) :=
  ⟨rfl, rfl, rfl, by simp [World.setCell], fun k _ hk => Below.heap_setCell _ _ _ _ (fun e => hk (by simp [e]))⟩
theorem EB.set0 {T : TypeId} {rest : List Value} {B : Nat} {w : World} {b : Nat} {p v : Value} {l : List UInt8} (h : EB T rest B w b p v l) : EB T rest B (w.setCell ⟨b, 0, none⟩ (.pointer (some ⟨b, 0, none⟩))) b (.pointer (some ⟨b, 0, none⟩)) v l := by
  have hb := h.blk
  exact ⟨by simp [World.setCell, Array.getElem?_modify, hb], h.own.kept (two_set w b 0 _) (Or.inr h.ne), h.ne, Or.inr rfl, h.nil⟩
set_option maxHeartbeats 1000000 in
set_option maxRecDepth 100000 in
theorem eCheck (T : TypeId) (rest : List Value) (B : Nat) (hT : liesAt Try.prog Try.prog.depth T ((rest.length + 2) / Try.prog.cellsOf T) 0 43 1 = true) (b : Nat) (p v : Value) (l : List UInt8) (w : World) (h : EB T rest B w b p v l) :
    Calls Try.prog 36 #[.pointer (some ⟨b, 0, none⟩)] w fun e w' => e = .returned (.tuple #[]) ∧ EB T rest B w' b (.pointer (some ⟨b, 0, none⟩)) v l ∧ w.grownBy w' (some b) := by
  rcases h.self with rfl | rfl
  · have h0 := h.c0
    have hfz : w.frozen? ⟨b, 0, none⟩ = false := Lib.frozen_of_heap h.blk 0
    have hsh := h.shape
    have H := Lib.hid h; clear h
    obtain ⟨j, hj, hjs⟩ := Option.map_eq_some_iff.1 bldSize
    have hc : (w.setCell ⟨b, 0, none⟩ (.pointer (some ⟨b, 0, none⟩))).cell? ⟨b, 0, none⟩ = some (.pointer (some ⟨b, 0, none⟩)) := World.cell?_setCell_same' _ _ _ (by rw [h0]; rfl)
    have hne : ∀ w, (binOp .neq 40 (.pointer (some ⟨b, 0, none⟩)) (.pointer (some ⟨b, 0, none⟩))).run Try.prog w = .ok (.bool false) w := fun w => Lib.run_neq_ptr_same w _ Try.underlying40 hj
    go_enter Try.func36, Try.ntmps36
    go_wp2
    rw [Lib.run_to_unsafe w ⟨b, 0, none⟩ Try.underlying40 Try.underlying90 hj (by rw [hjs]; decide) hsh (Nat.zero_lt_succ _)]
    simp only [Result.andThen]
    rw [Oper.upon_value]
    go_wp2
    rw [run_callFunc_extern Try.func50 (by kernel_rfl) (by kernel_rfl) (by kernel_rfl) (e := Extern.AbiNoEscape.same) (by kernel_rfl)]
    rw [Lib.run_noEscape]
    simp only [Result.andThen]
    rw [Oper.upon_value]
    go_wp2
    rw [Lib.run_from_unsafe w ⟨b, 0, none⟩ Try.underlying90 Try.underlying40 hj hsh hT]
    simp only [Result.andThen]
    rw [Oper.upon_value]
    go_wp2
    go_end0
    exact ⟨rfl, H.out.set0, two_set _ _ _ _⟩
  · have h0 := h.c0
    have H := Lib.hid h; clear h
    obtain ⟨j, hj, _⟩ := Option.map_eq_some_iff.1 bldSize
    have hne : ∀ w, (binOp .neq 40 (.pointer (some ⟨b, 0, none⟩)) (.pointer (some ⟨b, 0, none⟩))).run Try.prog w = .ok (.bool false) w := fun w => Lib.run_neq_ptr_same w _ Try.underlying40 hj
    go_enter Try.func36, Try.ntmps36
    go_wp2
    go_end0
    exact ⟨rfl, H.out, ⟨rfl, rfl, rfl, Nat.le_refl _, fun _ _ _ => rfl⟩⟩
/-- a new buffer laid into 'buf' -/
theorem EB.put {T : TypeId} {rest : List Value} {B : Nat} {w : World} {b : Nat} {p v v' : Value} {l : List UInt8} (hb : w.heap[b]? = some (.cells (p :: v :: rest).toArray T (0, 0))) (hs : p = .pointer none ∨ p = .pointer (some ⟨b, 0, none⟩))
    (hown : w.ownsRow B 5 1 v' l.length (Lib.byteCells l)) (hT : T ≠ 5) (hn : l = [] → v' = .slice none 0 0) : EB T rest B (w.setCell ⟨b, 1, none⟩ v') b p v' l := by
  have hne := Lib.ownBlock_ne hown hb hT
  exact ⟨by simp [World.setCell, Array.getElem?_modify, hb], hown.kept (two_set w b 1 _) (Or.inr hne), hne, hs, hn⟩
theorem two_of {w w1 w2 : World} {b : Nat} {v x : Value} (h1 : w.grownBy w1 (some b)) (h2 : w1.grownBy w2 v.ownBlock) : Two w (w2.setCell ⟨b, 1, none⟩ x) b v.ownBlock :=
  ⟨h2.os.trans h1.os, h2.tape.trans h1.tape, h2.output.trans h1.output, by have := h1.size; have := h2.size; simp [World.setCell]; omega,
    fun k hk hkb hko => (Below.heap_setCell _ _ _ _ hkb).trans ((h2.block k (by have := h1.size; omega) hko).trans (h1.block k hk (by simpa using hkb)))⟩
set_option maxHeartbeats 2000000 in
set_option maxRecDepth 100000 in
theorem eText (T : TypeId) (rest : List Value) (B : Nat) (hT : liesAt Try.prog Try.prog.depth T ((rest.length + 2) / Try.prog.cellsOf T) 0 43 1 = true) (hTe : T ≠ 5) (b : Nat) (p v : Value) (l : List UInt8) (s : ByteArray) (w : World) (h : EB T rest B w b p v l) (hlen : l.length + s.size ≤ 140737488355328) (hBw : B ≤ w.heap.size) :
    Calls Try.prog 15 #[.pointer (some ⟨b, 0, none⟩), .string s] w fun e w' => e = .returned (.tuple #[.int .i64 s.size, .nilIface]) ∧ (∃ v', EB T rest B w' b (.pointer (some ⟨b, 0, none⟩)) v' (l ++ s.data.toList)) ∧ Two w w' b v.ownBlock := by
  obtain ⟨i0, hi, hz0, hz1, hz2⟩ := info_parts bldByte
  have hbl : (Lib.byteCells l).length = l.length := Lib.byteCells_length l
  have happ : Lib.byteCells (l ++ s.data.toList) = Lib.byteCells l ++ Lib.strCells s := by simp [Lib.byteCells, Lib.strCells]
  have hl2 : (l ++ s.data.toList).length = l.length + s.size := by simp
  have HA := Lib.hid happ; clear happ
  have HL := Lib.hid hl2; clear hl2
  have HK := Lib.hid (eCheck T rest B hT b p v l w h)
  have hnl : l ++ s.data.toList = [] → l = [] ∧ s.size = 0 := by
    intro e
    obtain ⟨e1, e2⟩ := List.append_eq_nil_iff.1 e
    exact ⟨e1, by have := congrArg List.length e2; simpa using this⟩
  have HNL := Lib.hid hnl; clear hnl h
  go_enter Try.func15, Try.ntmps15
  go_wp2_with (go_at_call 36; refine HK.out.mono ?_)
  rintro e w1 ⟨rfl, h1, g1⟩
  have c0 := h1.c0
  have c1 := h1.c1
  have hown := h1.own
  have H1 := Lib.hid h1
  have G1 := Lib.hid g1
  clear h1 g1
  go_wp2_with (at_builtin; refine Lib.wpList_append_own_string _ rfl _ _ 41 9 rfl B 5 i0 Try.underlying41 Try.underlying9 hi hz0 hz1 hz2 _ _ _ rfl hown s rfl ?c3 ?c4 ?c5 ?_)
  case c3 => unfold maxLen; omega
  case c4 => omega
  case c5 => have := G1.out.size; omega
  intro v' w2 hown' hgrow hnil
  have hlt := H1.out.lt
  have hb2 : w2.heap[b]? = some (.cells (.pointer (some ⟨b, 0, none⟩) :: v :: rest).toArray T (0, 0)) := by
    rw [hgrow.block b hlt (fun e => H1.out.ne e.symm)]
    exact H1.out.blk
  have d0 : w2.cell? ⟨b, 0, none⟩ = some (.pointer (some ⟨b, 0, none⟩)) := by rw [Lib.cell_of_heap hb2]; rfl
  have d1 : w2.cell? ⟨b, 1, none⟩ = some v := by rw [Lib.cell_of_heap hb2]; rfl
  have f1 : w2.frozen? ⟨b, 1, none⟩ = false := Lib.frozen_of_heap hb2 1
  obtain ⟨ao, n', cap, rfl⟩ : ∃ ao n' cap, v' = .slice ao n' cap := by
    rcases hown'.2 with ⟨hv, _⟩ | ⟨g, cap, cur, hv, _⟩
    · exact ⟨_, _, _, hv⟩
    · exact ⟨_, _, _, hv⟩
  go_wp2
  go_ret2
  refine ⟨rfl, ⟨_, EB.put hb2 (Or.inr rfl) (by rw [HL.out, HA.out]; exact hown') hTe (fun e => ?_)⟩, two_of G1.out hgrow⟩
  obtain ⟨e1, e2⟩ := HNL.out e
  exact hnil.2 ⟨H1.out.nil e1, by first | exact e2 | exact ByteArray.size_eq_zero_iff.1 e2 | (apply ByteArray.ext; apply Array.eq_empty_of_size_eq_zero; exact e2)⟩
set_option maxHeartbeats 2000000 in
set_option maxRecDepth 100000 in
theorem eWrite (T : TypeId) (rest : List Value) (B : Nat) (hT : liesAt Try.prog Try.prog.depth T ((rest.length + 2) / Try.prog.cellsOf T) 0 43 1 = true) (hTe : T ≠ 5) (b : Nat) (p v : Value) (l : List UInt8) (ad : Addr) (c : Nat) (ys : List UInt8) (w : World) (h : EB T rest B w b p v l)
    (hy : ∀ j u, (Lib.byteCells ys)[j]? = some u → w.cell? (ad.add j) = some u) (had : ad.block ≠ b) (h0 : ys ≠ []) (hlen : l.length + ys.length ≤ 140737488355328) (hBw : B ≤ w.heap.size) :
    Calls Try.prog 41 #[.pointer (some ⟨b, 0, none⟩), .slice (some ad) ys.length c] w fun e w' => e = .returned (.tuple #[.int .i64 (ys.length : Nat), .nilIface]) ∧ (∃ v', EB T rest B w' b (.pointer (some ⟨b, 0, none⟩)) v' (l ++ ys)) ∧ Two w w' b v.ownBlock := by
  obtain ⟨i0, hi, hz0, hz1, hz2⟩ := info_parts bldByte
  have hbl : (Lib.byteCells l).length = l.length := Lib.byteCells_length l
  have hby : (Lib.byteCells ys).length = ys.length := Lib.byteCells_length ys
  have happ : Lib.byteCells (l ++ ys) = Lib.byteCells l ++ Lib.byteCells ys := by simp [Lib.byteCells]
  have hl2 : (l ++ ys).length = l.length + ys.length := by simp
  have HA := Lib.hid happ; clear happ
  have HL := Lib.hid hl2; clear hl2
  have HY0 := Lib.hid h0; clear h0
  have HK := Lib.hid (eCheck T rest B hT b p v l w h)
  have HY := Lib.hid hy
  have hblk : ∀ j, (ad.add j).block = ad.block := by intro j; unfold Addr.add; split <;> rfl
  have HB := Lib.hid hblk
  clear h hy hblk
  go_enter Try.func41, Try.ntmps41
  go_wp2_with (go_at_call 36; refine HK.out.mono ?_)
  rintro e w1 ⟨rfl, h1, g1⟩
  have c0 := h1.c0
  have c1 := h1.c1
  have hown := h1.own
  have H1 := Lib.hid h1
  have G1 := Lib.hid g1
  clear h1 g1
  go_wp2_with (at_builtin; refine wpList_append_own _ rfl _ _ 41 rfl B 5 i0 (.int .u8 0) 1 1 Try.underlying41 hi hz0 hz1 hz2 rfl (by decide) _ _ _ rfl hown ad ys.length c (Lib.byteCells ys) rfl (by rw [hby]; simp) ?c1 ?c2 ?c3 ?c4 ?c5 ?_)
  case c1 =>
    intro j u hj
    exact G1.out.cell (HY.out j u hj) (by rw [HB.out]; simpa using had)
  case c2 =>
    intro u hu
    simp only [Lib.byteCells, List.mem_map] at hu
    obtain ⟨x, _, rfl⟩ := hu
    rfl
  case c3 => unfold maxLen; omega
  case c4 => omega
  case c5 => have := G1.out.size; omega
  intro v' w2 hown' hgrow hnil
  have hlt := H1.out.lt
  have hb2 : w2.heap[b]? = some (.cells (.pointer (some ⟨b, 0, none⟩) :: v :: rest).toArray T (0, 0)) := by
    rw [hgrow.block b hlt (fun e => H1.out.ne e.symm)]
    exact H1.out.blk
  have d0 : w2.cell? ⟨b, 0, none⟩ = some (.pointer (some ⟨b, 0, none⟩)) := by rw [Lib.cell_of_heap hb2]; rfl
  have d1 : w2.cell? ⟨b, 1, none⟩ = some v := by rw [Lib.cell_of_heap hb2]; rfl
  have f1 : w2.frozen? ⟨b, 1, none⟩ = false := Lib.frozen_of_heap hb2 1
  obtain ⟨ao, n', cap, rfl⟩ : ∃ ao n' cap, v' = .slice ao n' cap := by
    rcases hown'.2 with ⟨hv, _⟩ | ⟨g, cap, cur, hv, _⟩
    · exact ⟨_, _, _, hv⟩
    · exact ⟨_, _, _, hv⟩
  go_wp2
  go_ret2
  refine ⟨rfl, ⟨_, EB.put hb2 (Or.inr rfl) (by rw [HL.out, HA.out]; exact hown') hTe (fun e => ?_)⟩, two_of G1.out hgrow⟩
  exact absurd (List.append_eq_nil_iff.1 e).2 HY0.out
set_option maxHeartbeats 1000000 in
theorem eLen (T : TypeId) (rest : List Value) (B : Nat) (b : Nat) (p v : Value) (l : List UInt8) (w : World) (h : EB T rest B w b p v l) :
    Calls Try.prog 45 #[.pointer (some ⟨b, 0, none⟩)] w fun e w' => e = .returned (.int .i64 (l.length : Nat)) ∧ w = w' := by
  have c1 := h.c1
  obtain ⟨ao, cap, rfl⟩ : ∃ ao cap, v = .slice ao l.length cap := by
    rcases h.own.2 with ⟨hv, hz⟩ | ⟨g, cap, cur, hv, _⟩
    · exact ⟨none, 0, by rw [hv, hz]⟩
    · exact ⟨_, _, hv⟩
  clear h
  go_enter Try.func45, Try.ntmps45
  go_wp2
  go_ret
  exact ⟨rfl, rfl⟩
/-- what String reads -/
def BR (w : World) (b : Nat) (v : Value) (l : List UInt8) : Prop := w.cell? ⟨b, 1, none⟩ = some v ∧ v.ownBlock ≠ some b ∧ ((l = [] ∧ v = .slice none 0 0) ∨
  (l ≠ [] ∧ ∃ g cap cur fr, v = .slice (some ⟨g, 0, none⟩) l.length cap ∧ l.length ≤ cap ∧ cap ≤ maxLen ∧ w.heap[g]? = some (.cells cur 5 fr) ∧ l.length ≤ cur.size ∧ cur.toList.take l.length = Lib.byteCells l))
theorem EB.br {T : TypeId} {rest : List Value} {B : Nat} {w : World} {b : Nat} {p v : Value} {l : List UInt8} (h : EB T rest B w b p v l) : BR w b v l := by
  refine ⟨h.c1, h.ne, ?_⟩
  by_cases h0 : l = []
  · exact Or.inl ⟨h0, h.nil h0⟩
  · refine Or.inr ⟨h0, ?_⟩
    have hl0 : l.length ≠ 0 := by simpa using h0
    rcases h.own.2 with ⟨_, hz⟩ | ⟨g, cap, cur, hv, _, hg, hn, hm, hs, ht⟩
    · exact absurd hz hl0
    · exact ⟨g, cap, cur, _, hv, hn, hm, hg, by omega, by simpa using ht⟩
set_option maxHeartbeats 2000000 in
set_option maxRecDepth 100000 in
theorem eString (b : Nat) (v : Value) (l : List UInt8) (w : World) (h : BR w b v l) :
    Calls Try.prog 21 #[.pointer (some ⟨b, 0, none⟩)] w fun e w' => e = .returned (.string ⟨l.toArray⟩) ∧ BR w' b v l ∧ w.grownBy w' v.ownBlock := by
  obtain ⟨hc, hne, h⟩ := h
  rcases h with ⟨h0, h1⟩ | ⟨h0, g, cap, cur, fr, hv, hlc, hcm, hg, hlen, htake⟩
  · subst h0 h1
    have c1 : w.drew.cell? ⟨b, 1, none⟩ = some (.slice none 0 0) := hc
    have hSD : (Builtin.unsafeSliceData_ #[41] 82 #[.slice none 0 0]).run Try.prog w.drew = .ok (.pointer none) w.drew := Lib.run_unsafeSliceData_nil _ _ _ _ _
    have hUS : (Builtin.unsafeString_ #[82, 3] 9 #[.pointer none, .int .i64 0]).run Try.prog w.drew = .ok (.string ⟨#[]⟩) w.drew := Lib.run_unsafeString_none _ _ _ _ _
    go_enter Try.func21, Try.ntmps21
    go_wp2
    go_region
    all_goals (go_wp2; go_ret; exact ⟨rfl, ⟨c1, hne, Or.inl ⟨rfl, rfl⟩⟩, ⟨rfl, rfl, rfl, Nat.le_refl _, fun _ _ _ => rfl⟩⟩)
  · have hl0 : l.length ≠ 0 := by simpa using h0
    subst hv
    have hgb : b ≠ g := by intro e; subst e; exact hne rfl
    have c1 : w.drew.cell? ⟨b, 1, none⟩ = some (.slice (some ⟨g, 0, none⟩) l.length cap) := hc
    have hg' : w.drew.heap[g]? = some (.cells cur 5 fr) := hg
    have hSD : (Builtin.unsafeSliceData_ #[41] 82 #[.slice (some ⟨g, 0, none⟩) l.length cap]).run Try.prog w.drew = .ok (.pointer (some ⟨g, 0, none⟩)) w.drew :=
      Lib.run_unsafeSliceData_row _ _ _ _ _ _ (by omega)
    have hUS : (Builtin.unsafeString_ #[82, 3] 9 #[.pointer (some ⟨g, 0, none⟩), .int .i64 l.length]).run Try.prog w.drew = .ok (.string ⟨l.toArray⟩) (w.drew.freeze ⟨g, 0, none⟩ l.length) := by
      refine Lib.run_unsafeString_row w.drew 82 3 9 5 Try.underlying82 bldByteC g cur.size (by simp [World.shape?, hg']) l h0 hlen (by unfold maxLen at hcm; omega) ?_
      intro j x hx
      have hj : j < l.length := by
        rcases Nat.lt_or_ge j l.length with h' | h'
        · exact h'
        · rw [List.getElem?_eq_none h'] at hx; cases hx
      have h1 := congrArg (fun t => t[j]?) htake
      simp only [List.getElem?_take, if_pos hj] at h1
      simp [Lib.byteCells, hx] at h1
      rw [Addr.add_lit, Nat.zero_add, Lib.cell_of_heap hg']
      simpa using h1
    have hfr : ∃ fr', (w.drew.freeze ⟨g, 0, none⟩ l.length).heap[g]? = some (.cells cur 5 fr') := by
      unfold World.freeze
      rw [if_neg hl0]
      simp [Array.getElem?_modify, hg']
    have hoth : ∀ k, k ≠ g → (w.drew.freeze ⟨g, 0, none⟩ l.length).heap[k]? = w.heap[k]? := by
      intro k hk
      unfold World.freeze
      rw [if_neg hl0]
      simp only [Array.getElem?_modify]
      rw [if_neg (by omega)]
      rfl
    have hsz : (w.drew.freeze ⟨g, 0, none⟩ l.length).heap.size = w.heap.size := by
      unfold World.freeze
      rw [if_neg hl0]
      simp only [Array.size_modify]
      rfl
    have hrest : (w.drew.freeze ⟨g, 0, none⟩ l.length).os = w.os ∧ (w.drew.freeze ⟨g, 0, none⟩ l.length).tape = w.tape ∧ (w.drew.freeze ⟨g, 0, none⟩ l.length).output = w.output := by
      unfold World.freeze
      rw [if_neg hl0]
      exact ⟨rfl, rfl, rfl⟩
    have HP : Hid (BR (w.drew.freeze ⟨g, 0, none⟩ l.length) b (.slice (some ⟨g, 0, none⟩) l.length cap) l ∧ w.grownBy (w.drew.freeze ⟨g, 0, none⟩ l.length) (some g)) := by
      refine ⟨⟨?_, hne, Or.inr ⟨h0, g, cap, cur, _, rfl, hlc, hcm, hfr.choose_spec, hlen, htake⟩⟩, hrest.1, hrest.2.1, hrest.2.2, by omega, fun k _ hk => hoth k (fun e => hk (by rw [e]))⟩
      rw [← hc]
      exact World.cell?_of_block (hoth b hgb)
    clear hfr hoth hsz hrest htake hg hg' hne hc
    go_enter Try.func21, Try.ntmps21
    go_wp2
    go_region
    all_goals (go_wp2; go_ret; exact ⟨rfl, HP.out⟩)
end Go.Proofs.Ytlkpgefapcfdbaa
