/- siloref12.Get, Add (walks). -/
import Derived.Test.YtkbpkodakfknoaaPackOc
import Derived.Maps.AppendAt
namespace Go.Proofs.Ytkbpkodakfknoaa
open Go.RowKit
set_option linter.unusedVariables false
set_option linter.unusedSimpArgs false
theorem wpList_push_obj {w : World} {ops : Array Oper} {rest : List Oper} {o : Oper} {a : Act} {Q : Exit → Act → World → Prop} (hgd : o.guard = none) (s x : Operand) (t : TypeId)
    (ho : o.op = .call { callee := .builtin .append, args := #[s, x], argTypes := #[t, t] }) (ht : Try.prog.underlying t = some (.slice 45))
    (base : Nat) (v : Value) (xs : List Ob) (hs : a.eval s = v) (hown : w.ownsRow base 45 2 v xs.length (obCells xs))
    (vb c : Nat) (y : Ob) (hx : a.eval x = .slice (some ⟨vb, 0, none⟩) 1 c) (hc : w.heap[vb]? = some (.cells #[.string y.1, .string y.2] 45 (0, 0))) (hle : xs.length + 1 ≤ 1000000000) (hbase : base ≤ w.heap.size)
    (h : ∀ v' w', w'.ownsRow base 45 2 v' (xs ++ [y]).length (obCells (xs ++ [y])) → w.grownBy w' v.ownBlock → wpList Try.prog ops Q rest (a.put o.dst v') w') : wpList Try.prog ops Q (o :: rest) a w := by
  obtain ⟨i0, hi0, hz0, hzs, hzb⟩ := info_parts objInfo
  refine wpList_append_own w hgd s x t ho base 45 i0 _ 2 32 ht hi0 hz0 hzs hzb rfl (by decide) v _ _ hs hown ⟨vb, 0, none⟩ 1 c [.string y.1, .string y.2] hx (by simp) (fun j u hj => ?_) (fun u hu => by simp at hu; rcases hu with rfl | rfl <;> rfl) (by unfold maxLen; omega) (by omega) hbase ?_
  · rw [Addr.add_lit]
    simp only [World.cell?, hc]
    simpa using hj
  · intro v' w' h1 h2 _
    refine h v' w' ?_ h2
    rw [List.length_append, obCells, List.flatMap_append]
    simpa [ES2, EStr] using h1
theorem below_pushO {B size n : Nat} {w wr w1 : World} {e : TypeId} {v : Value} {xs : List Value} {o : Obj} (h : Below B w wr) (hB : B ≤ wr.heap.size) (hown : wr.ownsRow B e size v n xs) (g : (wr.alloc o).grownBy w1 v.ownBlock) : Below B w w1 :=
  (h.alloc hB o).grown g (by rw [World.size_alloc]; omega) (fun k hk => (hown.lt k hk).1)
set_option maxRecDepth 20000 in
set_option maxHeartbeats 2000000 in
theorem oget_any (v : Value) (l : List Ob) (k : ByteArray) (w : World) (hv : ObjsB w v l) :
    Calls Try.prog 36 #[v, .string k] w fun e w' => ∃ r b, e = .returned (.tuple #[.string r, .bool b]) ∧ ((b = true → (k, r) ∈ l) ∧ (b = false → ∀ o ∈ l, o.1 ≠ k)) ∧ Below w.heap.size w w' := by
  obtain ⟨A, c, rfl, h2, h3, h4⟩ := hv
  have hc9 : c ≤ 9223372036854775807 := by unfold maxLen at h3; omega
  have HH4 := Lib.hid h4
  obtain ⟨n, hn⟩ : ∃ n, n = l.length := ⟨_, rfl⟩
  have HN := Lib.hid hn
  rw [← hn] at h2 ⊢
  clear hn h4 h3
  go_enter Try.func36, Try.ntmps36
  go_wp2_with fail
  go_loopw [6] (fun i wr => ∃ j : Nat, j ≤ n ∧ i = .int .i64 j ∧ Hid (∀ t (h : t < l.length), t < j → l[t].1 ≠ k) ∧ Hid (Below w.heap.size w wr)) (fun i _ => n - (intOf i).toNat)
  case atStart => exact ⟨0, Nat.zero_le _, rfl, (fun t h h' => absurd h' (by omega)), Below.refl _ _⟩
  case round =>
    obtain ⟨j, hj, rfl, HK, HBr⟩ := hrel
    by_cases hlt : j < n
    · have hlt' : (j : Int) < (n : Int) := by omega
      have hnn := HN.out
      obtain ⟨b, off, rfl, hblt, hcells⟩ := HH4.out (by omega)
      have hml : j < l.length := by omega
      obtain ⟨x1, x2⟩ := hcells j hml
      have y1 := (HBr.out.cell (p := ⟨b, off + j * 2, none⟩) hblt).trans x1
      have y2 := (HBr.out.cell (p := ⟨b, off + j * 2 + 1, none⟩) hblt).trans x2
      have hj0 : (0 : Int) ≤ (j : Int) := by omega
      have HM : Hid (l[j] ∈ l) := List.getElem_mem hml
      have HK2 : Hid (l[j].1 ≠ k → ∀ t (h : t < l.length), t < j + 1 → l[t].1 ≠ k) := by
        intro hne t h h'
        by_cases e : t = j
        · subst e; exact hne
        · exact HK.out t h (by omega)
      generalize l[j] = o at *
      obtain ⟨ok, orw⟩ := o
      dsimp only at *
      clear hcells x1 x2 hnn HK
      by_cases he : ok = k
      · have hee : (ok.toList == k.toList) = true := by rw [he]; simp
        have HE := Lib.hid he
        clear he
        go_wp2_with fail
        go_ret2
        exact ⟨_, _, rfl, ⟨(fun _ => by rw [← HE.out]; exact HM.out), (fun h => by cases h)⟩, HBr.out⟩
      · have hee : (ok.toList == k.toList) = false := by
          rw [beq_eq_false_iff_ne, toList_data, toList_data]
          exact fun e => he (ByteArray.ext (Array.toList_inj.1 e))
        have HK3 := Lib.hid (HK2.out he)
        clear he
        go_wp2_with fail
        go_roundw
        case rel => exact ⟨j + 1, by omega, by go_num, HK3, HBr⟩
        case measure => simp [intOf]; omega
    · obtain rfl : j = n := by omega
      have hnn := HN.out
      have HF : Hid (∀ o ∈ l, o.1 ≠ k) := by
        intro o ho
        obtain ⟨t, ht, rfl⟩ := List.getElem_of_mem ho
        exact HK.out t ht (by omega)
      clear hnn
      go_wp2_with fail
      go_ret2
      exact ⟨_, _, rfl, ⟨(fun h => by cases h), (fun _ => HF.out)⟩, HBr.out⟩
/-- what Add's rows keep -/
structure AddI (l : List Ob) (x : Ob) (j : Nat) (U : List Ob) (d : Bool) : Prop where
  all : ∀ t (h : t < l.length), t < j → l[t] ∈ U
  old : ∀ o ∈ U, o ∈ l ∨ o = x
  new : d = true → x ∈ U
  len : U.length = j + d.toNat
theorem AddI.push {l : List Ob} {x : Ob} {j : Nat} {U : List Ob} {d : Bool} (h : AddI l x j U d) (hj : j < l.length) : AddI l x (j + 1) (U ++ [l[j]]) d := by
  refine ⟨fun t ht h' => ?_, fun o ho => ?_, fun hd => by simp [h.new hd], by simp [h.len]; omega⟩
  · by_cases e : t = j
    · subst e; simp
    · have := h.all t ht (by omega); simp [this]
  · rcases List.mem_append.1 ho with h1 | h1
    · exact h.old o h1
    · rw [List.mem_singleton.1 h1]; exact Or.inl (List.getElem_mem hj)
theorem AddI.put {l : List Ob} {x : Ob} {j : Nat} {U : List Ob} (h : AddI l x j U false) : AddI l x j (U ++ [x]) true := by
  refine ⟨fun t ht h' => by have := h.all t ht h'; simp [this], fun o ho => ?_, fun hd => by simp, by simp [h.len]⟩
  rcases List.mem_append.1 ho with h1 | h1
  · exact h.old o h1
  · exact Or.inr (List.mem_singleton.1 h1)
/-- Add's answer -/
structure AddO (l : List Ob) (x : Ob) (U : List Ob) : Prop where
  all : ∀ o ∈ l, o ∈ U
  old : ∀ o ∈ U, o ∈ l ∨ o = x
  new : (∀ o ∈ l, o.1 ≠ x.1) → x ∈ U
  same : (∃ o ∈ l, o.1 = x.1) → U = l
  len : U.length ≤ l.length + 1
theorem AddI.done {l : List Ob} {x : Ob} {U : List Ob} (h : AddI l x l.length U true) (hn : ∀ o ∈ l, o.1 ≠ x.1) : AddO l x U := by
  refine ⟨fun o ho => ?_, h.old, fun _ => h.new rfl, (fun ⟨o, ho, e⟩ => absurd e (hn o ho)), by rw [h.len]; exact Nat.le_refl _⟩
  obtain ⟨t, ht, rfl⟩ := List.getElem_of_mem ho
  exact h.all t ht ht
theorem AddO.refl {l : List Ob} {x : Ob} (h : ∃ o ∈ l, o.1 = x.1) : AddO l x l :=
  ⟨(fun o ho => ho), (fun o ho => Or.inl ho), (fun hn => by obtain ⟨o, ho, e⟩ := h; exact absurd e (hn o ho)), (fun _ => rfl), by omega⟩
set_option maxRecDepth 20000 in
set_option maxHeartbeats 2000000 in
theorem oadd_any (v : Value) (l : List Ob) (x : Ob) (w : World) (hv : ObjsB w v l) (hx : x.1.size = 32) (hl : l.length ≤ 100000) :
    Calls Try.prog 37 #[v, .agg #[.string x.1, .string x.2]] w fun e w' => ∃ v' U, e = .returned v' ∧ ObjsB w' v' U ∧ AddO l x U ∧ Below w.heap.size w w' := by
  have q1 := heap_alloc_new w (.cells #[.string x.1, .string x.2] 45)
  obtain ⟨wp, hwp⟩ : ∃ wp, wp = w.alloc (.cells #[.string x.1, .string x.2] 45) := ⟨_, rfl⟩
  have HWP : Hid (w.alloc (.cells #[.string x.1, .string x.2] 45) = wp) := hwp.symm
  rw [← hwp] at q1
  have HQ1 := Lib.hid q1
  have HBp : Hid (Below w.heap.size w wp) := by unfold Hid; rw [hwp]; exact (Below.refl _ _).alloc (Nat.le_refl _) _
  have hsp : wp.heap.size = w.heap.size + 1 := by rw [hwp]; simp
  have HSP := Lib.hid hsp
  obtain ⟨z0, z1⟩ := cells2P q1
  have HG := Lib.hid (oget_any v l x.1 wp (hv.below HBp.out (Nat.le_refl _)))
  have HV := Lib.hid hv
  have HV1 := Lib.hid (hv.below HBp.out (Nat.le_refl _))
  have hxx : (x.1.size : Int) = 32 := by omega
  obtain ⟨A, c, rfl, h2, h3, h4⟩ := hv
  have hc9 : c ≤ 9223372036854775807 := by unfold maxLen at h3; omega
  have HH4 := Lib.hid h4
  obtain ⟨n, hn⟩ : ∃ n, n = l.length := ⟨_, rfl⟩
  have HN := Lib.hid hn
  rw [← hn] at h2 hl HV HV1 HG ⊢
  clear hwp q1 hsp h3 h4 hn hx
  go_enter Try.func37, Try.ntmps37
  go_wp2_with fail
  rw [HWP.out]
  refine (HG.out).mono ?_
  rintro e w1 ⟨r, b, rfl, ⟨hyes, hno⟩, b1⟩
  have HB1 := Lib.hid b1
  have HV2 := Lib.hid (HV1.out.below b1 (Nat.le_refl _))
  have q2 := (b1.block w.heap.size (by have := HSP.out; omega)).trans HQ1.out
  have HQ2 := Lib.hid q2
  obtain ⟨u0, u1⟩ := cells2P q2
  have HBw := Lib.hid (HBp.out.trans (b1.mono HBp.out.size))
  cases b with
  | true =>
    have HR : Hid (AddO l x l) := AddO.refl ⟨_, hyes rfl, rfl⟩
    clear hyes hno b1 q2 z0 z1
    go_wp2_with fail
    go_ret
    exact ⟨_, l, rfl, HV2.out, HR.out, HBw.out⟩
  | false =>
    have HNO := Lib.hid (hno rfl)
    have h32 : ((x.1.size : Int) == 32) = true := by rw [hxx]; rfl
    have h33 : decide ((x.1.size : Int) = 32) = true := by simp; omega
    clear hyes hno b1 q2 z0 z1
    go_wp2_with fail
    go_loopw [7, 8, 9] (fun o d i wr => ∃ (j : Nat) (U : List Ob) (db : Bool), j ≤ n ∧ i = .int .i64 j ∧ d = .bool db ∧ Hid (AddI l x j U db) ∧ Hid (wr.ownsRow wp.heap.size 45 2 o U.length (obCells U)) ∧ Hid (Below wp.heap.size wp wr)) (fun _ _ i _ => n - (intOf i).toNat)
    case atStart => exact ⟨0, [], false, Nat.zero_le _, rfl, rfl, ⟨(fun t h h' => absurd h' (by omega)), (fun o ho => nomatch ho), (fun h => nomatch h), rfl⟩, World.ownsRow_nil _ _ _ _, HB1.out⟩
    case round =>
      obtain ⟨j, U, db, hj, rfl, rfl, HI, HO, HBr⟩ := hrel
      have HUL : Hid (U.length ≤ j + 1) := by unfold Hid; rw [HI.out.len]; cases db <;> simp
      by_cases hlt : j < n
      · have hlt' : (j : Int) < (n : Int) := by omega
        have hnn := HN.out
        obtain ⟨b, off, rfl, hblt, hcells⟩ := HH4.out (by omega)
        have hml : j < l.length := by omega
        obtain ⟨x1, x2⟩ := hcells j hml
        have hpb : ∀ o, wr.cell? ⟨b, o, none⟩ = w.cell? ⟨b, o, none⟩ := fun o => (HBr.out.cell (p := ⟨b, o, none⟩) (by have := HSP.out; dsimp only; omega)).trans (HBp.out.cell (p := ⟨b, o, none⟩) hblt)
        have y1 := (hpb _).trans x1
        have y2 := (hpb _).trans x2
        have hB3 := (HBr.out.block w.heap.size (by have := HSP.out; omega)).trans HQ1.out
        obtain ⟨z0, z1⟩ := cells2P hB3
        have hj0 : (0 : Int) ≤ (j : Int) := by omega
        have HPU : ∀ d2, Hid (∀ U2, AddI l x j U2 d2 → AddI l x (j + 1) (U2 ++ [l[j]]) d2) := fun d2 U2 h => h.push hml
        have HP1 := HPU db
        have HP2 := HPU true
        generalize l[j] = y at *
        clear hcells hpb x1 x2 hB3 hnn HPU u0 u1 HQ2
        cases db with
        | true =>
          have HI2 := Lib.hid (HP1.out _ HI.out)
          go_wp2_with fail
          go_quiet (fail)
          generalize hwd : wr.drewN nq = wd
          have HOd : Hid (wd.ownsRow wp.heap.size 45 2 u7 U.length (obCells U)) := by unfold Hid; rw [← hwd]; exact HO.out
          have HBd : Hid (Below wp.heap.size wp wd) := by unfold Hid; rw [← hwd]; exact Below.drewN HBr.out _
          have a1 : wd.cell? ⟨b, off + j * 2, none⟩ = some (.string y.1) := by rw [← hwd]; exact y1
          have a2 : wd.cell? ⟨b, off + j * 2 + 1, none⟩ = some (.string y.2) := by rw [← hwd]; exact y2
          have e0 : wd.cell? ⟨w.heap.size, 0, none⟩ = some (.string x.1) := by rw [← hwd]; exact z0
          have e1 : wd.cell? ⟨w.heap.size, 1, none⟩ = some (.string x.2) := by rw [← hwd]; exact z1
          clear hwd y1 y2 z0 z1 HO HBr
          go_wp2_with (at_builtin; refine wpList_push_obj rfl _ _ _ rfl Try.underlying22 wp.heap.size _ (U) rfl (HOd.out.alloc _) _ 1 y rfl (heap_alloc_new _ _) (by have := HUL.out; (try simp only [List.length_append, List.length_singleton]); omega) (by have := (HBd.out).size; rw [World.size_alloc]; omega) ?_)
          intro vx4 wx4 o1 g1
          have HB4 := Lib.hid (below_pushO HBd.out (HBd.out).size (HOd.out) g1)
          obtain ⟨gg4, cc4, rfl⟩ : ∃ gg cc, vx4 = .slice (some ⟨gg, 0, none⟩) ((U).length + 1) cc := by
            rcases o1.2 with ⟨_, h0⟩ | ⟨gg, cc, _, e, _⟩
            · simp at h0
            · exact ⟨gg, cc, by simpa using e⟩
          have HO4 : Hid (wx4.ownsRow wp.heap.size 45 2 (.slice (some ⟨gg4, 0, none⟩) ((U).length + 1) cc4) (U ++ [y]).length (obCells (U ++ [y]))) := by unfold Hid; simpa [obCells] using o1
          clear o1 g1
          go_wp2_with fail
          go_roundw
          case rel => exact ⟨j + 1, U ++ [y], true, by omega, by go_num, rfl, HI2, HO4, HB4⟩
          case measure => simp [intOf]; omega
        | false =>
          cases hge : Op.bytesLess y.1.toList x.1.toList with
          | true =>
            have HI2 := Lib.hid (HP1.out _ HI.out)
            go_wp2_with fail
            go_quiet (fail)
            generalize hwd : wr.drewN nq = wd
            have HOd : Hid (wd.ownsRow wp.heap.size 45 2 u7 U.length (obCells U)) := by unfold Hid; rw [← hwd]; exact HO.out
            have HBd : Hid (Below wp.heap.size wp wd) := by unfold Hid; rw [← hwd]; exact Below.drewN HBr.out _
            have a1 : wd.cell? ⟨b, off + j * 2, none⟩ = some (.string y.1) := by rw [← hwd]; exact y1
            have a2 : wd.cell? ⟨b, off + j * 2 + 1, none⟩ = some (.string y.2) := by rw [← hwd]; exact y2
            have e0 : wd.cell? ⟨w.heap.size, 0, none⟩ = some (.string x.1) := by rw [← hwd]; exact z0
            have e1 : wd.cell? ⟨w.heap.size, 1, none⟩ = some (.string x.2) := by rw [← hwd]; exact z1
            clear hwd y1 y2 z0 z1 HO HBr
            go_wp2_with (at_builtin; refine wpList_push_obj rfl _ _ _ rfl Try.underlying22 wp.heap.size _ (U) rfl (HOd.out.alloc _) _ 1 y rfl (heap_alloc_new _ _) (by have := HUL.out; (try simp only [List.length_append, List.length_singleton]); omega) (by have := (HBd.out).size; rw [World.size_alloc]; omega) ?_)
            intro vx4 wx4 o1 g1
            have HB4 := Lib.hid (below_pushO HBd.out (HBd.out).size (HOd.out) g1)
            obtain ⟨gg4, cc4, rfl⟩ : ∃ gg cc, vx4 = .slice (some ⟨gg, 0, none⟩) ((U).length + 1) cc := by
              rcases o1.2 with ⟨_, h0⟩ | ⟨gg, cc, _, e, _⟩
              · simp at h0
              · exact ⟨gg, cc, by simpa using e⟩
            have HO4 : Hid (wx4.ownsRow wp.heap.size 45 2 (.slice (some ⟨gg4, 0, none⟩) ((U).length + 1) cc4) (U ++ [y]).length (obCells (U ++ [y]))) := by unfold Hid; simpa [obCells] using o1
            clear o1 g1
            go_wp2_with fail
            go_roundw
            case rel => exact ⟨j + 1, U ++ [y], false, by omega, by go_num, rfl, HI2, HO4, HB4⟩
            case measure => simp [intOf]; omega
          | false =>
            cases hqe : (y.1.toList == x.1.toList) with
            | true =>
              have HI2 := Lib.hid (HP1.out _ HI.out)
              go_wp2_with fail
              go_quiet (fail)
              generalize hwd : wr.drewN nq = wd
              have HOd : Hid (wd.ownsRow wp.heap.size 45 2 u7 U.length (obCells U)) := by unfold Hid; rw [← hwd]; exact HO.out
              have HBd : Hid (Below wp.heap.size wp wd) := by unfold Hid; rw [← hwd]; exact Below.drewN HBr.out _
              have a1 : wd.cell? ⟨b, off + j * 2, none⟩ = some (.string y.1) := by rw [← hwd]; exact y1
              have a2 : wd.cell? ⟨b, off + j * 2 + 1, none⟩ = some (.string y.2) := by rw [← hwd]; exact y2
              have e0 : wd.cell? ⟨w.heap.size, 0, none⟩ = some (.string x.1) := by rw [← hwd]; exact z0
              have e1 : wd.cell? ⟨w.heap.size, 1, none⟩ = some (.string x.2) := by rw [← hwd]; exact z1
              clear hwd y1 y2 z0 z1 HO HBr
              go_wp2_with (at_builtin; refine wpList_push_obj rfl _ _ _ rfl Try.underlying22 wp.heap.size _ (U) rfl (HOd.out.alloc _) _ 1 y rfl (heap_alloc_new _ _) (by have := HUL.out; (try simp only [List.length_append, List.length_singleton]); omega) (by have := (HBd.out).size; rw [World.size_alloc]; omega) ?_)
              intro vx4 wx4 o1 g1
              have HB4 := Lib.hid (below_pushO HBd.out (HBd.out).size (HOd.out) g1)
              obtain ⟨gg4, cc4, rfl⟩ : ∃ gg cc, vx4 = .slice (some ⟨gg, 0, none⟩) ((U).length + 1) cc := by
                rcases o1.2 with ⟨_, h0⟩ | ⟨gg, cc, _, e, _⟩
                · simp at h0
                · exact ⟨gg, cc, by simpa using e⟩
              have HO4 : Hid (wx4.ownsRow wp.heap.size 45 2 (.slice (some ⟨gg4, 0, none⟩) ((U).length + 1) cc4) (U ++ [y]).length (obCells (U ++ [y]))) := by unfold Hid; simpa [obCells] using o1
              clear o1 g1
              go_wp2_with fail
              go_roundw
              case rel => exact ⟨j + 1, U ++ [y], false, by omega, by go_num, rfl, HI2, HO4, HB4⟩
              case measure => simp [intOf]; omega
            | false =>
              have HI2 := Lib.hid (HP2.out _ HI.out.put)
              go_wp2_with fail
              go_quiet (fail)
              generalize hwd : wr.drewN nq = wd
              have HOd : Hid (wd.ownsRow wp.heap.size 45 2 u7 U.length (obCells U)) := by unfold Hid; rw [← hwd]; exact HO.out
              have HBd : Hid (Below wp.heap.size wp wd) := by unfold Hid; rw [← hwd]; exact Below.drewN HBr.out _
              have a1 : wd.cell? ⟨b, off + j * 2, none⟩ = some (.string y.1) := by rw [← hwd]; exact y1
              have a2 : wd.cell? ⟨b, off + j * 2 + 1, none⟩ = some (.string y.2) := by rw [← hwd]; exact y2
              have e0 : wd.cell? ⟨w.heap.size, 0, none⟩ = some (.string x.1) := by rw [← hwd]; exact z0
              have e1 : wd.cell? ⟨w.heap.size, 1, none⟩ = some (.string x.2) := by rw [← hwd]; exact z1
              clear hwd y1 y2 z0 z1 HO HBr
              go_wp2_with (at_builtin; refine wpList_push_obj rfl _ _ _ rfl Try.underlying22 wp.heap.size _ (U) rfl (HOd.out.alloc _) _ 1 x rfl (heap_alloc_new _ _) (by have := HUL.out; (try simp only [List.length_append, List.length_singleton]); omega) (by have := (HBd.out).size; rw [World.size_alloc]; omega) ?_)
              intro vx4 wx4 o1 g1
              have HB4 := Lib.hid (below_pushO HBd.out (HBd.out).size (HOd.out) g1)
              obtain ⟨gg4, cc4, rfl⟩ : ∃ gg cc, vx4 = .slice (some ⟨gg, 0, none⟩) ((U).length + 1) cc := by
                rcases o1.2 with ⟨_, h0⟩ | ⟨gg, cc, _, e, _⟩
                · simp at h0
                · exact ⟨gg, cc, by simpa using e⟩
              have HO4 : Hid (wx4.ownsRow wp.heap.size 45 2 (.slice (some ⟨gg4, 0, none⟩) ((U).length + 1) cc4) (U ++ [x]).length (obCells (U ++ [x]))) := by unfold Hid; simpa [obCells] using o1
              clear o1 g1
              have hz1 : wp.heap.size ≤ wx4.heap.size := HB4.out.size
              have hpb : ∀ o, wx4.cell? ⟨b, o, none⟩ = wd.cell? ⟨b, o, none⟩ := fun o => (HB4.out.cell (p := ⟨b, o, none⟩) (by have := HSP.out; dsimp only; omega)).trans (HBd.out.cell (p := ⟨b, o, none⟩) (by have := HSP.out; dsimp only; omega)).symm
              have f1 := (hpb _).trans a1
              have f2 := (hpb _).trans a2
              have HO4' : Hid (wx4.ownsRow wp.heap.size 45 2 (.slice (some ⟨gg4, 0, none⟩) (U.length + 1) cc4) (U ++ [x]).length (obCells (U ++ [x]))) := HO4
              clear hpb a1 a2 e0 e1 HOd HBd HO4
              go_wp2_with (at_builtin; refine wpList_push_obj rfl _ _ _ rfl Try.underlying22 wp.heap.size _ (U ++ [x]) rfl (HO4'.out.alloc _) _ 1 y rfl (heap_alloc_new _ _) (by have := HUL.out; (try simp only [List.length_append, List.length_singleton]); omega) (by have := (HB4.out).size; rw [World.size_alloc]; omega) ?_)
              intro vx5 wx5 o1 g1
              have HB5 := Lib.hid (below_pushO HB4.out (HB4.out).size (HO4'.out) g1)
              obtain ⟨gg5, cc5, rfl⟩ : ∃ gg cc, vx5 = .slice (some ⟨gg, 0, none⟩) ((U ++ [x]).length + 1) cc := by
                rcases o1.2 with ⟨_, h0⟩ | ⟨gg, cc, _, e, _⟩
                · simp at h0
                · exact ⟨gg, cc, by simpa using e⟩
              have HO5 : Hid (wx5.ownsRow wp.heap.size 45 2 (.slice (some ⟨gg5, 0, none⟩) ((U ++ [x]).length + 1) cc5) (U ++ [x] ++ [y]).length (obCells (U ++ [x] ++ [y]))) := by unfold Hid; simpa [obCells] using o1
              clear o1 g1
              go_wp2_with fail
              go_roundw
              case rel => exact ⟨j + 1, U ++ [x] ++ [y], true, by omega, by go_num, rfl, HI2, HO5, HB5⟩
              case measure => simp [intOf]; omega
      · obtain rfl : j = n := by omega
        have hnn := HN.out
        have HBF := Lib.hid (HBp.out.trans (HBr.out.mono HBp.out.size))
        cases db with
        | true =>
          have HR : Hid (AddO l x U) := by
            have h := HI.out
            rw [hnn] at h
            exact h.done HNO.out
          clear hnn
          go_wp2_with fail
          go_ret
          exact ⟨_, U, rfl, ObjsB.of_owns HO.out, HR.out, HBF.out⟩
        | false =>
          have HR : Hid (AddO l x (U ++ [x])) := by
            have h := HI.out
            rw [hnn] at h
            exact h.put.done HNO.out
          have hB3 := (HBr.out.block w.heap.size (by have := HSP.out; omega)).trans HQ1.out
          obtain ⟨z0, z1⟩ := cells2P hB3
          clear hnn hB3 u0 u1 HQ2
          go_wp2_with (at_builtin; refine wpList_push_obj rfl _ _ _ rfl Try.underlying22 wp.heap.size _ (U) rfl (HO.out.alloc _) _ 1 x rfl (heap_alloc_new _ _) (by have := HUL.out; (try simp only [List.length_append, List.length_singleton]); omega) (by have := (HBr.out).size; rw [World.size_alloc]; omega) ?_)
          intro vx4 wx4 o1 g1
          have HB4 := Lib.hid (below_pushO HBr.out (HBr.out).size (HO.out) g1)
          obtain ⟨gg4, cc4, rfl⟩ : ∃ gg cc, vx4 = .slice (some ⟨gg, 0, none⟩) ((U).length + 1) cc := by
            rcases o1.2 with ⟨_, h0⟩ | ⟨gg, cc, _, e, _⟩
            · simp at h0
            · exact ⟨gg, cc, by simpa using e⟩
          have HO4 : Hid (wx4.ownsRow wp.heap.size 45 2 (.slice (some ⟨gg4, 0, none⟩) ((U).length + 1) cc4) (U ++ [x]).length (obCells (U ++ [x]))) := by unfold Hid; simpa [obCells] using o1
          clear o1 g1
          have HBG := Lib.hid (HBp.out.trans (HB4.out.mono HBp.out.size))
          go_wp2_with fail
          go_ret
          exact ⟨_, U ++ [x], rfl, ObjsB.of_owns (B := wp.heap.size) HO4.out, HR.out, HBG.out⟩
end Go.Proofs.Ytkbpkodakfknoaa
