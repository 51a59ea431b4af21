/- slices.AppendSeq and Collect over an iterator that stores into memory of its own: walks. -/
import Derived.Test.YtjgjhjecgdndjaaLoWhole
import Derived.Shelf.SlIter.Collect
namespace Go.Proofs.Ytjgjhjecgdndjaa
open Go.RowKit Go.Shelf Go.Sort Go.Maps
attribute [local go_sem] Oper.semAt_some
set_option linter.unusedVariables false
set_option linter.unusedSimpArgs false
/-- what the loop of AppendSeq holds behind i rounds -/
structure AsI (w : World) (bk : Nat) (xs : List ByteArray) (i : Nat) (W : World) : Prop where
  ex : ∃ v, W.heap[w.heap.size]? = some (.cells #[v] 33 (0, 0)) ∧ W.ownsRow (w.heap.size + 1) 9 1 v (xs.take i).length ((xs.take i).map .string)
  old : w.grownBy W (some bk)
  size : w.heap.size < W.heap.size
theorem not_fr_of_str {o : Obj} {cur : Array Value} (h : o = .cells cur 9 (0, 0)) : ¬ FrO o := by
  rintro ⟨c2, h2⟩
  rw [h] at h2
  injection h2 with _ h3
  exact absurd h3 (by decide)
theorem not_fr_of_strs {o : Obj} {cur : Array Value} (h : o = .cells cur 33 (0, 0)) : ¬ FrO o := by
  rintro ⟨c2, h2⟩
  rw [h] at h2
  injection h2 with _ h3
  exact absurd h3 (by decide)
theorem owns_by {W W' : World} {B n : Nat} {v : Value} {l : List Value} (h : W.ownsRow B 9 1 v n l) (hk : ∀ g cur, B ≤ g → W.heap[g]? = some (.cells cur 9 (0, 0)) → W'.heap[g]? = W.heap[g]?) : W'.ownsRow B 9 1 v n l := by
  refine ⟨h.1, ?_⟩
  rcases h.2 with h | ⟨g, cap, cur, hv, hb, hg, h1, h2, h3, h4⟩
  · exact .inl h
  · exact .inr ⟨g, cap, cur, hv, hb, (hk g cur hb hg).trans hg, h1, h2, h3, h4⟩
theorem AsI.tn {w : World} {bk : Nat} {xs : List ByteArray} {i : Nat} {A B : World} (hbk : bk < w.heap.size) (h : AsI w bk xs i A) (t : TnW w.heap.size bk A B) : AsI w bk xs i B := by
  obtain ⟨v, h1, h2⟩ := h.ex
  refine ⟨⟨v, t.oth _ _ h1 (by omega) (not_fr_of_strs rfl), owns_by h2 (fun g cur hg hc => (t.oth _ _ hc (by omega) (not_fr_of_str rfl)).trans hc.symm)⟩, ⟨t.os.trans h.old.os, t.tape.trans h.old.tape, t.output.trans h.old.output, Nat.le_trans h.old.size t.size, fun k hk hne => (t.low k hk (fun e => hne (by rw [e]))).trans (h.old.block k hk hne)⟩, Nat.lt_of_lt_of_le h.size t.size⟩
theorem AsI.put {w : World} {bk : Nat} {xs : List ByteArray} {i : Nat} {A : World} {l : Nat} {o o' : Obj} (h : AsI w bk xs i A) (hl : w.heap.size + 1 ≤ l) (ho : A.heap[l]? = some o) (hc : o.isCells = false) : AsI w bk xs i (A.putObj l o') := by
  obtain ⟨v, h1, h2⟩ := h.ex
  refine ⟨⟨v, (World.putObj_heap_other (by omega)).trans h1, owns_by h2 (fun g cur hg hcu => World.putObj_heap_other (fun e => by rw [e] at hcu; rw [ho] at hcu; cases hcu; cases hc))⟩, ⟨h.old.os, h.old.tape, h.old.output, by rw [World.putObj_size]; exact h.old.size, fun k hk hne => (World.putObj_heap_other (by omega)).trans (h.old.block k hk hne)⟩, by rw [World.putObj_size]; exact h.size⟩
theorem AsI.alloc {w : World} {bk : Nat} {xs : List ByteArray} {i : Nat} {A : World} (h : AsI w bk xs i A) (o : Obj) : AsI w bk xs i (A.alloc o) := by
  obtain ⟨v, h1, h2⟩ := h.ex
  exact ⟨⟨v, (Below.heap_alloc _ _ _ h.size).trans h1, h2.alloc o⟩, ⟨h.old.os, h.old.tape, h.old.output, by rw [World.size_alloc]; have := h.old.size; omega, fun k hk hne => (Below.heap_alloc _ _ _ (by have := h.size; omega)).trans (h.old.block k hk hne)⟩, by rw [World.size_alloc]; have := h.size; omega⟩
set_option maxRecDepth 100000 in
set_option maxHeartbeats 4000000 in
theorem aseq_ty (n : Nat) (hn : 3 ≤ n) (g : Nat) (lb : Array Value) (eg : ∀ args w, (callFunc g args).run Try.prog w = .ok (.enter g args) w) (bk : Nat) (E : World → Prop) (xs : List ByteArray) (w : World) (hbk : bk < w.heap.size) (hlen : xs.length ≤ 1000)
    (hseq : ∀ W, Below w.heap.size w W → SeqTY Fence.wide (n - 1) Try.prog g lb (fun t : ByteArray => #[.string t]) (KpW w.heap.size) (TnW w.heap.size bk) E xs W)
    (hE : ∀ A l o', w.heap.size ≤ l → E A → E (A.putObj l o')) :
    CallsIn Fence.wide n Try.prog 56 #[.slice none 0 0, .func (.func g) #[] lb] w fun e w' => ∃ v, e = .returned v ∧ w'.ownsRow w.heap.size 9 1 v xs.length (xs.map .string) ∧ E w' ∧ w.grownBy w' (some bk) := by
  have hro : Fence.wide.round = none := rfl
  refine callsIn_of_wp_marks Try.func56 rfl trivial ?_ hro
  simp only [Try.ntmps56, List.size_toArray, List.length_cons, List.length_nil, Nat.reduceAdd, Nat.reduceSub, Array.replicate_succ, Array.replicate_zero, List.push_toArray, List.append_toArray, List.nil_append, List.cons_append]
  gi_wp2_with fail
  obtain ⟨W0, hW0⟩ : ∃ W0, w.alloc (.cells #[.slice none 0 0] 33) = W0 := ⟨_, rfl⟩
  have hs0 : W0.heap.size = w.heap.size + 1 := by rw [← hW0]; simp
  have hv0 : W0.heap[w.heap.size]? = some (.cells #[.slice none 0 0] 33 (0, 0)) := by rw [← hW0]; exact World.alloc_heap_new w _
  have hb0 : Below w.heap.size w W0 := by rw [← hW0]; exact (Below.refl _ w).alloc (Nat.le_refl _) _
  have hI0 : AsI w bk xs 0 W0 := ⟨⟨_, hv0, by rw [List.take_zero]; exact World.ownsRow_nil _ _ _ _⟩, ⟨hb0.os, hb0.tape, hb0.output, hb0.size, fun k hk _ => hb0.block k hk⟩, by omega⟩
  have hsq := hseq W0 hb0
  rw [hW0]
  clear hW0 hseq
  refine wpIn_rangeTY hro (by omega) (gf := g) (lb := lb) rfl trivial eg hsq
    (fun A B ht k o hk ho hc => ht.oth k o ho (by omega) (by rintro ⟨c2, rfl⟩; cases hc))
    (fun A B l o' hl ha hk => ⟨by have := hk.size; rwa [World.putObj_size] at this, fun k hk2 => (hk.low k hk2).trans (World.putObj_heap_other (by omega)), fun k o ho hf => hk.fr k o ((World.putObj_heap_other (fun e => by subst e; have := ha o ho; obtain ⟨c2, rfl⟩ := hf; cases this)).trans ho) hf⟩)
    (fun A B l o' hl hb hk => ⟨by rw [World.putObj_size]; exact hk.size, fun k hk2 => (World.putObj_heap_other (by omega)).trans (hk.low k hk2), fun k o ho hf => (World.putObj_heap_other (fun e => by subst e; have := hb o (hk.fr _ o ho hf); obtain ⟨c2, rfl⟩ := hf; cases this)).trans (hk.fr k o ho hf)⟩)
    (fun A l o o' hl _ _ h => hE A l o' (by omega) h)
    (fun _ => rfl) (fun i W => AsI w bk xs i W)
    (fun i V l o o' h hl ho hc => h.put (by omega) ho hc) (fun i V o h => h.alloc o) (fun i V W h ht => h.tn hbk ht)
    hI0
    ?a1 ?assign ?body ?done
  case a1 => exact fun x => { tmps := #[.slice none 0 0, .func (.func g) #[] lb, .pointer (some ⟨w.heap.size, 0, none⟩), undef, .slice none 0 0, .string x, .func (.func g) #[] lb, .string x, undef, undef, undef, undef, undef], defers := [] }
  case assign =>
    intro l x W K hK
    gi_wp2
    exact hK
  case body =>
    intro l i x W hlW hI hx
    obtain ⟨v, hv, hown⟩ := hI.ex
    have hil : i < xs.length := (List.getElem?_eq_some_iff.1 hx).1
    have hTK : xs.take (i + 1) = xs.take i ++ [x] := by
      rw [List.take_succ_eq_append_getElem hil]
      rw [List.getElem?_eq_getElem hil, Option.some.injEq] at hx
      rw [hx]
    have hLN : (xs.take i).length = i := by rw [List.length_take]; omega
    obtain ⟨i0, hi, hz0, hz1, hz2⟩ := info_parts strInfo
    have hvc := cell_of_box_a hv
    obtain ⟨hc2, hf2⟩ := hvc
    have HI := Lib.hid hI
    have HV := Lib.hid hv
    have HO := Lib.hid hown
    have hBlt : w.heap.size < W.heap.size := hI.size
    have HTK := Lib.hid hTK
    have HLN := Lib.hid hLN
    have HX0 := Lib.hid (And.intro hi (And.intro hz0 (And.intro hz1 hz2)))
    clear hI hv hown hTK hLN hx hi hz0 hz1 hz2
    gi_wp2_with (gi_at_builtin; refine wpListIn_append_own _ rfl _ _ 33 rfl (w.heap.size + 1) 9 i0 (.string ByteArray.empty) 1 16 Try.underlying33 HX0.out.1 HX0.out.2.1 HX0.out.2.2.1 HX0.out.2.2.2 rfl (by decide) _ _ _ rfl (HO.out.alloc _) ⟨W.heap.size, 0, none⟩ 1 1 [.string x] rfl rfl (cell_one_new _ _ _) (by simp [Value.oneCell']) (by have := HLN.out; unfold maxLen; omega) (by have := HLN.out; omega) (by simp; omega) ?_)
    intro v' w3 hown' hg3 _
    have hw3 : w3.heap[w.heap.size]? = some (.cells #[v] 33 (0, 0)) := (hg3.block _ (by simp; omega) (fun e => by have := (HO.out.lt _ e.symm).1; omega)).trans ((Below.heap_alloc _ _ _ hBlt).trans HV.out)
    obtain ⟨hc3, hf3⟩ := cell_of_box_a hw3
    have HW3 := Lib.hid hw3
    have HO3 := Lib.hid hown'
    have HG3 := Lib.hid hg3
    clear hown' hg3 hw3
    obtain ⟨gq, cq, rfl⟩ : ∃ gq cq, v' = .slice (some ⟨gq, 0, none⟩) (i + 1) cq := by
      have hl := HLN.out
      rcases HO3.out.2 with ⟨_, h0⟩ | ⟨gg, cc, _, e, _⟩
      · simp at h0
      · exact ⟨gg, cc, by rw [e]; congr 1; omega⟩
    have hvb : ∀ b, v.ownBlock = some b → w.heap.size + 1 ≤ b ∧ ∃ cur, W.heap[b]? = some (.cells cur 9 (0, 0)) := fun b hb => by
      rcases HO.out.2 with ⟨e, _⟩ | ⟨gg, cc, cur, e, h1, h2, _⟩
      · rw [e] at hb; cases hb
      · rw [e] at hb; cases hb; exact ⟨h1, cur, h2⟩
    have hkeep : ∀ k (o : Obj), W.heap[k]? = some o → k ≠ w.heap.size → (∀ cur, o ≠ .cells cur 9 (0, 0)) → ∀ z, (w3.setCell ⟨w.heap.size, 0, none⟩ z).heap[k]? = some o := fun k o ho hk hn z => by
      have hlt := (Array.getElem?_eq_some_iff.1 ho).1
      rw [Below.heap_setCell _ _ _ _ (by dsimp only; exact hk), HG3.out.block k (by rw [World.size_alloc]; omega) (fun e => by
        obtain ⟨_, cur, hc⟩ := hvb k e.symm
        rw [ho] at hc; exact hn cur (Option.some.inj hc)), Below.heap_alloc _ _ _ hlt]
      exact ho
    have hlow : ∀ k, k < w.heap.size → ∀ z, (w3.setCell ⟨w.heap.size, 0, none⟩ z).heap[k]? = W.heap[k]? := fun k hk z => by
      rw [Below.heap_setCell _ _ _ _ (by dsimp only; omega), HG3.out.block k (by rw [World.size_alloc]; omega) (fun e => by
        have := (hvb k e.symm).1; omega), Below.heap_alloc _ _ _ (by omega)]
    have hsz : ∀ z, W.heap.size ≤ (w3.setCell ⟨w.heap.size, 0, none⟩ z).heap.size := fun z => by
      have := HG3.out.size
      rw [World.size_alloc] at this
      rw [World.size_setCell]; omega
    have HKP := Lib.hid hkeep
    have HLW := Lib.hid hlow
    have HSZ := Lib.hid hsz
    clear hkeep hlow hsz hvb
    gi_wp2_with fail
    refine ⟨⟨HSZ.out _, fun k o hk ho hco => HKP.out k o ho (by omega) (fun cur e => by rw [e] at hco; cases hco) _⟩, ⟨HSZ.out _, fun k hk => HLW.out k hk _, fun k o ho hf => HKP.out k o ho (fun e => by
      subst e
      rw [HV.out] at ho
      exact not_fr_of_strs rfl (Option.some.inj ho ▸ hf)) (fun cur e => not_fr_of_str e hf) _⟩, ⟨⟨_, heap_setCell_box_a _ HW3.out, ?_⟩, ?_, Nat.lt_of_lt_of_le hBlt (HSZ.out _)⟩⟩
    · have h := ownsRow_setCell_below HO3.out (a := ⟨w.heap.size, 0, none⟩) (by dsimp only; omega) (.slice (some ⟨gq, 0, none⟩) (i + 1) cq)
      have hl : (xs.take (i + 1)).length = i + 1 := by rw [List.length_take]; omega
      rw [hl, HTK.out, List.map_append]
      have e : min i xs.length + 1 = i + 1 := by omega
      first
        | (rw [e] at h; simpa using h)
        | simpa using h
    · exact ⟨HG3.out.os.trans HI.out.old.os, HG3.out.tape.trans HI.out.old.tape, HG3.out.output.trans HI.out.old.output, Nat.le_trans HI.out.old.size (HSZ.out _), fun k hk hne => (HLW.out k hk _).trans (HI.out.old.block k hk hne)⟩
  case done =>
    intro D W hD hI hE' hKD
    have hDw : w.heap.size < D := by omega
    obtain ⟨v, hv, hown⟩ := hI.ex
    rw [List.take_length] at hown
    obtain ⟨hc3, hf3⟩ := cell_of_box_a hv
    have HV := Lib.hid hv
    have HO := Lib.hid hown
    have HE' := Lib.hid hE'
    have HK := Lib.hid hKD
    have HI := Lib.hid hI
    clear hv hown hE' hKD hI
    gi_wp2
    refine ⟨by simp, .inl ⟨_, _, rfl, run_takeDeferred HK.out, ?_⟩⟩
    refine ⟨_, results_tmp rfl _ _ _, v, rfl, ?_, hE _ _ _ (by omega) HE'.out, ?_⟩
    · refine ownsRow_le' (owns_by HO.out (fun g cur hg hc => World.putObj_heap_other (fun e => by rw [e] at hc; rw [HK.out] at hc; cases hc))) (by omega)
    · exact ⟨HI.out.old.os, HI.out.old.tape, HI.out.old.output, by rw [World.putObj_size]; exact HI.out.old.size, fun k hk hne => (World.putObj_heap_other (by omega)).trans (HI.out.old.block k hk hne)⟩
set_option maxHeartbeats 1000000 in
theorem collect_ty (n : Nat) (hn : 4 ≤ n) (g : Nat) (lb : Array Value) (eg : ∀ args w, (callFunc g args).run Try.prog w = .ok (.enter g args) w) (bk : Nat) (E : World → Prop) (xs : List ByteArray) (w : World) (hbk : bk < w.heap.size) (hlen : xs.length ≤ 1000)
    (hseq : ∀ W, Below w.heap.size w W → SeqTY Fence.wide (n - 1 - 1) Try.prog g lb (fun t : ByteArray => #[.string t]) (KpW w.heap.size) (TnW w.heap.size bk) E xs W)
    (hE : ∀ A l o', w.heap.size ≤ l → E A → E (A.putObj l o')) :
    CallsIn Fence.wide n Try.prog 34 #[.func (.func g) #[] lb] w fun e w' => ∃ v, e = .returned v ∧ w'.ownsRow w.heap.size 9 1 v xs.length (xs.map .string) ∧ E w' ∧ w.grownBy w' (some bk) := by
  refine callsIn_of_wp Try.func34 rfl trivial ?_ rfl
  simp only [Try.ntmps34, List.size_toArray, List.length_cons, List.length_nil, Nat.reduceAdd, Nat.reduceSub, Array.replicate_succ, Array.replicate_zero, List.push_toArray, List.append_toArray, List.nil_append, List.cons_append]
  gi_wp2_with fail
  refine ⟨trivial, fun _ => by omega, (aseq_ty (n - 1) (by omega) g lb eg bk E xs w hbk hlen hseq hE).mono ?_⟩
  rintro e w' ⟨v, rfl, h⟩
  have H := Lib.hid h
  clear h hseq
  gi_wp2
  go_ret
  exact ⟨v, rfl, H.out⟩
/-- the messages that are whole now, collected -/
theorem collect_whole (bk bf bw : Nat) (ses : UInt64) (x1 x2 x3 x6 x7 : Value) (Ae : Option Addr) (ne ce : Nat) (T : List ByteArray) (k q : Nat) (a : Int) (d : ByteArray) (le : List Frm4) (w0 w : World)
    (hT : T.length ≤ 90) (hk : k ≤ T.length) (hqd : T[q]? = some d) (hg : GoodL T ses le) (he : FrsN w0 (.slice Ae ne ce) le) (hB0 : w0.heap.size ≤ bk) (hag : AgO w0 w) (hN : bk < w.heap.size ∧ bf < w.heap.size ∧ bw < w.heap.size) (hbw : bw ≠ bk)
    (hf : w.heap[bf]? = some (.cells #[.int .u64 ses.toNat, .int .i64 q, .int .i64 a, .string d] 24 (0, 0))) (hw : w.cell? ⟨bw, 0, none⟩ = some (.pointer (some ⟨bk, 0, none⟩)))
    (hx : Box8 bk (.int .u64 ses.toNat) x1 x2 x3 (.int .i64 k) (.slice Ae ne ce) x6 x7 w) :
    Calls Try.prog 34 #[.func (.func 57) #[] #[.pointer (some ⟨bf, 0, none⟩), .pointer (some ⟨bw, 0, none⟩)]] w fun e w' => ∃ (v : Value) (m : Nat), e = .returned v ∧ k + m ≤ T.length ∧ w'.ownsRow w.heap.size 9 1 v ((T.drop k).take m).length (((T.drop k).take m).map .string) ∧ WEnd w0 bk ses x1 x2 x3 x6 x7 (.slice Ae ne ce) T le k m w' ∧ w.grownBy w' (some bk) := by
  have hml : k + remN q k le ≤ T.length := by
    unfold remN
    split
    · rename_i e
      have hlt := (List.getElem?_eq_some_iff.1 hqd).1
      have := whN_le T ses le (k + 1) (by omega) hg
      omega
    · exact hk
  refine callsIn_wide.1 ((collect_ty 10 (by decide) 57 _ (enters_of Try.func57 (by kernel_rfl) rfl) bk (WEnd w0 bk ses x1 x2 x3 x6 x7 (.slice Ae ne ce) T le k (remN q k le)) ((T.drop k).take (remN q k le)) w hN.1 (by rw [List.length_take]; omega) ?_ ?_).mono ?_)
  · intro W hW
    have hag2 : AgO w0 W := ⟨Nat.le_trans hag.1 hW.size, fun j hj => (hW.block j (Nat.lt_of_lt_of_le hj hag.1)).trans (hag.2 j hj)⟩
    exact whole1_ty (10 - 1 - 1) (by decide) bk bf bw w.heap.size ses x1 x2 x3 x6 x7 Ae ne ce T k q a d le w0 W hT hk hqd hg he hB0 hag2 ⟨hN.1, hN.2.1, hN.2.2, hW.size⟩ hbw ((hW.block bf hN.2.1).trans hf) ((hW.cell (p := ⟨bw, 0, none⟩) hN.2.2).trans hw) (hx.below hW hN.1)
  · rintro A l o' hl ⟨ve', le', h1, h2⟩
    exact ⟨ve', le', box_of_block h1 (World.putObj_heap_other (by omega)), h2⟩
  · rintro e w' ⟨v, rfl, h1, h2, h3⟩
    exact ⟨v, _, rfl, hml, h1, h2, h3⟩
end Go.Proofs.Ytjgjhjecgdndjaa
