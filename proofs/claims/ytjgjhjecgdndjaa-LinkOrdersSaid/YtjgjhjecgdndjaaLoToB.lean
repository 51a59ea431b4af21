/- A case of the round of things that go on (printed by gen-lo-todo.py). -/
import Derived.Test.YtjgjhjecgdndjaaLoTd
namespace Go.Proofs.Ytjgjhjecgdndjaa
open Go.RowKit
set_option linter.unusedVariables false
set_option linter.unusedSimpArgs false
set_option maxRecDepth 100000 in
set_option maxHeartbeats 8000000 in
theorem todo_junk1 (W : World) (A3 : Option Addr) (n3 c3 : Nat) (x3 : List ByteArray) (n2 c2 gd od : Nat) (q0 q1 q2 q4 q5 q6 q7 q13 q14 q15 q16 q17 q18 q19 q20 q21 q22 q23 q29 q30 q31 q32 q33 q34 q35 q36 q37 q38 q39 q40 q41 q42 q43 q44 q45 q46 q47 q48 q49 q50 q51 q52 q53 q54 q55 q56 q57 q58 q59 q60 q61 q62 q63 q64 q65 q66 q67 q68 q69 q70 q71 q72 q73 q74 q75 q76 q77 q78 q79 q80 q81 q82 q83 q84 q85 q86 q87 q88 q89 q90 q91 q92 q93 q94 q95 q96 q97 q98 q99 q100 q101 q102 q103 q104 q105 q106 q107 q108 q109 q110 q111 q112 q113 q114 q115 q116 q117 q118 q119 q120 q228 q229 q230 q231 q232 q233 q234 q235 q236 q237 q238 q239 q240 q241 q242 q243 q244 q245 q246 q247 q248 q249 q250 q251 q252 q253 q254 q255 q256 : Value) (u8 u24 u25 u26 u27 u28 u124 u125 u126 u127 u128 u129 u130 u131 u132 u133 u134 u135 u136 u137 u138 u139 u140 u141 u142 u143 u144 u145 u146 u147 u148 u149 u150 u151 u152 u153 u154 u155 u156 u157 u158 u159 u160 u161 u162 u163 u164 u165 u166 u167 u168 u169 u170 u171 u172 u173 u174 u175 u176 u177 u178 u179 u180 u181 u182 u183 u184 u185 u186 u187 u188 u189 u190 u191 u192 u193 u194 u195 u196 u197 u198 u199 u200 u201 u202 u203 u204 u205 u206 u207 u208 u209 u210 u211 u212 u213 u214 u215 u216 u217 u218 u219 u220 u221 u222 u223 u224 u225 u226 u227 : Value) (wr : World) (j ka kb kc : Nat) (S : Nat → List ByteArray) (v : Nat → Value) (l : Nat → List ByteArray) (E : Nat → EndV) (K : Nat → Nat) (Q : Exit → Act → World → Prop) (HL3 : Hid (StrsN W (.slice A3 n3 c3) x3)) (HN3 : Hid (x3.length = n3)) (HJA : Hid (∀ y ∈ x3, JK y)) (g2 : n2 ≤ 120) (g3 : n3 ≤ 20) (hlt : j < n2) (h256 : ka < 256 ∧ kb < 256 ∧ kc < 256) (e0 : wr.cell? ⟨gd, od + j * 3, none⟩ = some (.int .u8 ka)) (e1 : wr.cell? ⟨gd, od + j * 3 + 1, none⟩ = some (.int .u8 kb)) (e2 : wr.cell? ⟨gd, od + j * 3 + 2, none⟩ = some (.int .u8 kc)) (HB : Hid (Below W.heap.size W wr)) (hD : TdS W.heap.size j S v l E K K wr) (hm : ka % 2 = 1) (hq : kb % 3 = 2) (HNX : Hid (∀ (v8 v24 v25 v26 v27 v28 v124 v125 v126 v127 v128 v129 v130 v131 v132 v133 v134 v135 v136 v137 v138 v139 v140 v141 v142 v143 v144 v145 v146 v147 v148 v149 v150 v151 v152 v153 v154 v155 v156 v157 v158 v159 v160 v161 v162 v163 v164 v165 v166 v167 v168 v169 v170 v171 v172 v173 v174 v175 v176 v177 v178 v179 v180 v181 v182 v183 v184 v185 v186 v187 v188 v189 v190 v191 v192 v193 v194 v195 v196 v197 v198 v199 v200 v201 v202 v203 v204 v205 v206 v207 v208 v209 v210 v211 v212 v213 v214 v215 v216 v217 v218 v219 v220 v221 v222 v223 v224 v225 v226 v227 : Value) (w' : World), TX W.heap.size (j + 1) w' → Below W.heap.size W w' → Q .normal ⟨#[q0, q1, q2, .slice A3 n3 c3, q4, q5, q6, q7, v8, .pointer (some ⟨W.heap.size, 0, none⟩), .pointer (some ⟨W.heap.size + 1, 0, none⟩), .pointer (some ⟨W.heap.size + 1 + 1, 0, none⟩), .pointer (some ⟨W.heap.size + 1 + 1 + 1, 0, none⟩), q13, q14, q15, q16, q17, q18, q19, q20, q21, q22, q23, v24, v25, v26, v27, v28, q29, q30, q31, q32, q33, q34, q35, q36, q37, q38, q39, q40, q41, q42, q43, q44, q45, q46, q47, q48, q49, q50, q51, q52, q53, q54, q55, q56, q57, q58, q59, q60, q61, q62, q63, q64, q65, q66, q67, q68, q69, q70, q71, q72, q73, q74, q75, q76, q77, q78, q79, q80, q81, q82, q83, q84, q85, q86, q87, q88, q89, q90, q91, q92, q93, q94, q95, q96, q97, q98, q99, q100, q101, q102, q103, q104, q105, q106, q107, q108, q109, q110, q111, q112, q113, q114, q115, q116, q117, q118, q119, q120, .slice (some ⟨gd, od, none⟩) n2 c2, .int .i64 n2, .int .i64 ((j : Int) + 1), v124, v125, v126, v127, v128, v129, v130, v131, v132, v133, v134, v135, v136, v137, v138, v139, v140, v141, v142, v143, v144, v145, v146, v147, v148, v149, v150, v151, v152, v153, v154, v155, v156, v157, v158, v159, v160, v161, v162, v163, v164, v165, v166, v167, v168, v169, v170, v171, v172, v173, v174, v175, v176, v177, v178, v179, v180, v181, v182, v183, v184, v185, v186, v187, v188, v189, v190, v191, v192, v193, v194, v195, v196, v197, v198, v199, v200, v201, v202, v203, v204, v205, v206, v207, v208, v209, v210, v211, v212, v213, v214, v215, v216, v217, v218, v219, v220, v221, v222, v223, v224, v225, v226, v227, q228, q229, q230, q231, q232, q233, q234, q235, q236, q237, q238, q239, q240, q241, q242, q243, q244, q245, q246, q247, q248, q249, q250, q251, q252, q253, q254, q255, q256], []⟩ w')) :
    Code.wp Try.prog todoBody Q ⟨#[q0, q1, q2, .slice A3 n3 c3, q4, q5, q6, q7, u8, .pointer (some ⟨W.heap.size, 0, none⟩), .pointer (some ⟨W.heap.size + 1, 0, none⟩), .pointer (some ⟨W.heap.size + 1 + 1, 0, none⟩), .pointer (some ⟨W.heap.size + 1 + 1 + 1, 0, none⟩), q13, q14, q15, q16, q17, q18, q19, q20, q21, q22, q23, u24, u25, u26, u27, u28, q29, q30, q31, q32, q33, q34, q35, q36, q37, q38, q39, q40, q41, q42, q43, q44, q45, q46, q47, q48, q49, q50, q51, q52, q53, q54, q55, q56, q57, q58, q59, q60, q61, q62, q63, q64, q65, q66, q67, q68, q69, q70, q71, q72, q73, q74, q75, q76, q77, q78, q79, q80, q81, q82, q83, q84, q85, q86, q87, q88, q89, q90, q91, q92, q93, q94, q95, q96, q97, q98, q99, q100, q101, q102, q103, q104, q105, q106, q107, q108, q109, q110, q111, q112, q113, q114, q115, q116, q117, q118, q119, q120, .slice (some ⟨gd, od, none⟩) n2 c2, .int .i64 n2, .int .i64 j, u124, u125, u126, u127, u128, u129, u130, u131, u132, u133, u134, u135, u136, u137, u138, u139, u140, u141, u142, u143, u144, u145, u146, u147, u148, u149, u150, u151, u152, u153, u154, u155, u156, u157, u158, u159, u160, u161, u162, u163, u164, u165, u166, u167, u168, u169, u170, u171, u172, u173, u174, u175, u176, u177, u178, u179, u180, u181, u182, u183, u184, u185, u186, u187, u188, u189, u190, u191, u192, u193, u194, u195, u196, u197, u198, u199, u200, u201, u202, u203, u204, u205, u206, u207, u208, u209, u210, u211, u212, u213, u214, u215, u216, u217, u218, u219, u220, u221, u222, u223, u224, u225, u226, u227, q228, q229, q230, q231, q232, q233, q234, q235, q236, q237, q238, q239, q240, q241, q242, q243, q244, q245, q246, q247, q248, q249, q250, q251, q252, q253, q254, q255, q256], []⟩ wr := by
  have hlt' : (j : Int) < (n2 : Int) := by omega
  obtain ⟨h256a, h256b, h256c⟩ := h256
  have hbC : Below wr.heap.size wr (wr.alloc (.cells #[.int .u8 ka, .int .u8 kb, .int .u8 kc] 45)) := (Below.refl _ _).alloc (Nat.le_refl _) _
  have HD := Lib.hid hD
  have HD2 := Lib.hid (hD.below hbC)
  have HBC := Lib.hid (HB.out.trans (hbC.mono HB.out.size))
  clear hD hbC HB
  have hm' : (ka : Int) % 2 = 1 := by omega
  have hq' : (kb : Int) % 3 = 2 := by omega
  have hN0 : W.heap.size < wr.heap.size := by have := HD.out.st.siz; omega
  obtain ⟨z0, z1, z2, z3, z4, z5, z6, z7⟩ := HD.out.st.cel 1 (by decide)
  have k0 : wr.cell? ⟨W.heap.size, 8, none⟩ = some (.int .u64 7) := z0
  have k1 : wr.cell? ⟨W.heap.size, 9, none⟩ = some (.int .i64 (E 1).base) := z1
  have k2 : wr.cell? ⟨W.heap.size, 10, none⟩ = some (E 1).vo := z2
  have k3 : wr.cell? ⟨W.heap.size, 11, none⟩ = some (E 1).vw := z3
  have k4 : wr.cell? ⟨W.heap.size, 12, none⟩ = some (.int .i64 (E 1).next) := z4
  have k5 : wr.cell? ⟨W.heap.size, 13, none⟩ = some (E 1).ve := z5
  have k6 : wr.cell? ⟨W.heap.size, 14, none⟩ = some (.int .i64 (E 1).idle) := z6
  have k7 : wr.cell? ⟨W.heap.size, 15, none⟩ = some (.bool (E 1).dead) := z7
  clear z0 z1 z2 z3 z4 z5 z6 z7
  conv => arg 2; whnf
  by_cases hj0 : 0 < n3
  case neg =>
    have dj : decide ((0 : Int) < (n3 : Int)) = false := by simp; omega
    go_wp2_with fail
    exact HNX.out _ _ _ _ _ _ _ _ _ _ _ _ _ _ _ _ _ _ _ _ _ _ _ _ _ _ _ _ _ _ _ _ _ _ _ _ _ _ _ _ _ _ _ _ _ _ _ _ _ _ _ _ _ _ _ _ _ _ _ _ _ _ _ _ _ _ _ _ _ _ _ _ _ _ _ _ _ _ _ _ _ _ _ _ _ _ _ _ _ _ _ _ _ _ _ _ _ _ _ _ _ _ _ _ _ _ _ _ _ _ _ (⟨S, v, l, E, K, HD2.out.more (by omega)⟩) (HBC.out)
  have dj : decide ((0 : Int) < (n3 : Int)) = true := by simp; omega
  obtain ⟨m, hmd⟩ : ∃ q, q = kc % n3 := ⟨_, rfl⟩
  have hml : m < n3 := by rw [hmd]; exact Nat.mod_lt _ (by omega)
  have hmm : (kc : Int) % (n3 : Int) = (m : Int) := by rw [hmd]; first | exact (Int.natCast_emod _ _).symm | rfl
  have hmt : (kc : Int).tmod (n3 : Int) = (m : Int) := by rw [Int.tmod_eq_emod_of_nonneg (show (0 : Int) ≤ (kc : Int) by omega)]; exact hmm
  have HMD := Lib.hid hmd
  clear hmd
  obtain ⟨gb, go, rfl, hgb, hcell⟩ := HL3.out.1.cells (by have := HN3.out; omega)
  have hmx : m < x3.length := by have := HN3.out; omega
  have ce := hcell m hmx
  have HY : Hid (JK x3[m]) := HJA.out _ (List.getElem_mem hmx)
  generalize x3[m] = y at *
  clear hcell hmx
  go_wp2_with fail
  obtain ⟨⟨Ao, no, co, sh1⟩, ⟨Aw, nw, cw, sh2⟩, ⟨Ae, ne, cq, sh3⟩⟩ := (HD.out.st.ends 1 (by decide)).shapes
  have HSH : Hid ((E 1).vo = .slice Ao no co ∧ (E 1).vw = .slice Aw nw cw ∧ (E 1).ve = .slice Ae ne cq) := ⟨sh1, sh2, sh3⟩
  have HDd := Lib.hid (HD2.out.below (Below.refl _ _).drew)
  have HBd := Lib.hid (HBC.out.drew)
  have HCD : Hid ((wr.alloc (.cells #[.int .u8 ka, .int .u8 kb, .int .u8 kc] 45)).drew.cell? ⟨wr.heap.size, 2, none⟩ = some (.int .u8 kc)) := cells_at (World.alloc_heap_new wr (.cells #[.int .u8 ka, .int .u8 kb, .int .u8 kc] 45)) 2
  have HCY : Hid ((wr.alloc (.cells #[.int .u8 ka, .int .u8 kb, .int .u8 kc] 45)).drew.cell? ⟨gb, go + m, none⟩ = some (.string y)) := (HBd.out.cell (p := ⟨gb, go + m, none⟩) hgb).trans ce
  have HSZ : Hid (wr.heap.size < (wr.alloc (.cells #[.int .u8 ka, .int .u8 kb, .int .u8 kc] 45)).drew.heap.size ∧ gb < (wr.alloc (.cells #[.int .u8 ka, .int .u8 kb, .int .u8 kc] 45)).drew.heap.size) := ⟨by show wr.heap.size < (wr.alloc (.cells #[.int .u8 ka, .int .u8 kb, .int .u8 kc] 45)).heap.size; rw [World.size_alloc]; omega, Nat.lt_of_lt_of_le hgb HBd.out.size⟩
  refine wp_region_noPanic ?_
  refine wp_region_held_drew (S := fun w' => Below (wr.alloc (.cells #[.int .u8 ka, .int .u8 kb, .int .u8 kc] 45)).drew.heap.size (wr.alloc (.cells #[.int .u8 ka, .int .u8 kb, .int .u8 kc] 45)).drew w') (by kernel_rfl) (Below.refl _ _) (fun hHeld => ?_)
  clear e0 e1 e2 ce hgb k0 k1 k2 k3 k4 k5 k6 k7 HD HD2 HBC HL3 sh1 sh2 sh3 hN0
  generalize (wr.alloc (.cells #[.int .u8 ka, .int .u8 kb, .int .u8 kc] 45)).drew = wd at *
  refine wpAnyH_take (i := 0) (v := .int .i64 1) rfl (by kernel_rfl) (by kernel_rfl) (by kernel_rfl) (fun _ _ _ h => h) (Or.inl ⟨by kernel_rfl, ?_⟩) hHeld ?_
  · intro wz hSw
    go_simp
  refine wpAnyH_take (i := 1) (v := .pointer (some ⟨W.heap.size, 8, none⟩)) rfl (by kernel_rfl) (by kernel_rfl) (by kernel_rfl) (fun _ _ _ h => h) (Or.inl ⟨by kernel_rfl, ?_⟩) hHeld ?_
  · intro wz hSw
    go_simp
  refine wpAnyH_take (i := 2) (v := .agg #[.int .u64 7, .int .i64 (E 1).base, .slice Ao no co, .slice Aw nw cw, .int .i64 (E 1).next, .slice Ae ne cq, .int .i64 (E 1).idle, .bool (E 1).dead]) rfl (by kernel_rfl) (by kernel_rfl) (by kernel_rfl) (fun _ _ _ h => h) (Or.inl ⟨by kernel_rfl, ?_⟩) hHeld ?_
  · intro wz hSw
    have hh := HDd.out.below hSw
    obtain ⟨z0, z1, z2, z3, z4, z5, z6, z7⟩ := hh.st.cel 1 (by decide)
    have q0 : wz.cell? ⟨W.heap.size, 8, none⟩ = some (.int .u64 7) := z0
    have q1 : wz.cell? ⟨W.heap.size, 9, none⟩ = some (.int .i64 (E 1).base) := z1
    have q2 : wz.cell? ⟨W.heap.size, 10, none⟩ = some (.slice Ao no co) := by rw [← HSH.out.1]; exact z2
    have q3 : wz.cell? ⟨W.heap.size, 11, none⟩ = some (.slice Aw nw cw) := by rw [← HSH.out.2.1]; exact z3
    have q4 : wz.cell? ⟨W.heap.size, 12, none⟩ = some (.int .i64 (E 1).next) := z4
    have q5 : wz.cell? ⟨W.heap.size, 13, none⟩ = some (.slice Ae ne cq) := by rw [← HSH.out.2.2]; exact z5
    have q6 : wz.cell? ⟨W.heap.size, 14, none⟩ = some (.int .i64 (E 1).idle) := z6
    have q7 : wz.cell? ⟨W.heap.size, 15, none⟩ = some (.bool (E 1).dead) := z7
    clear z0 z1 z2 z3 z4 z5 z6 z7
    go_simp
  refine wpAnyH_take (i := 3) (v := .slice (some ⟨gb, go, none⟩) n3 c3) rfl (by kernel_rfl) (by kernel_rfl) (by kernel_rfl) (fun _ _ _ h => h) (Or.inl ⟨by kernel_rfl, ?_⟩) hHeld ?_
  · intro wz hSw
    go_simp
  refine wpAnyH_take (i := 4) (v := .pointer (some ⟨wr.heap.size, 2, none⟩)) rfl (by kernel_rfl) (by kernel_rfl) (by kernel_rfl) (fun _ _ _ h => h) (Or.inl ⟨by kernel_rfl, ?_⟩) hHeld ?_
  · intro wz hSw
    go_simp
  try simp only [Act.put, List.getElem_toArray, List.getElem_cons_succ, List.getElem_cons_zero, List.setIfInBounds_toArray, List.set_cons_zero, List.set_cons_succ]
  refine wpAnyH_take (i := 5) (v := .int .u8 kc) rfl (by kernel_rfl) (by kernel_rfl) (by kernel_rfl) (fun _ _ _ h => h) (Or.inl ⟨by kernel_rfl, ?_⟩) hHeld ?_
  · intro wz hSw
    have hh := (hSw.cell (p := ⟨wr.heap.size, 2, none⟩) HSZ.out.1).trans HCD.out
    go_simp
  refine wpAnyH_take (i := 6) (v := .int .i64 kc) rfl (by kernel_rfl) (by kernel_rfl) (by kernel_rfl) (fun _ _ _ h => h) (Or.inl ⟨by kernel_rfl, ?_⟩) hHeld ?_
  · intro wz hSw
    go_simp
    first | done | ((try rw [Int.tdiv_eq_ediv_of_nonneg (by omega)]); (try rw [Int.tmod_eq_emod_of_nonneg (by omega)]); (try rw [IntKind.wrap_i64]); (try omega))
  refine wpAnyH_take (i := 7) (v := .slice (some ⟨gb, go, none⟩) n3 c3) rfl (by kernel_rfl) (by kernel_rfl) (by kernel_rfl) (fun _ _ _ h => h) (Or.inl ⟨by kernel_rfl, ?_⟩) hHeld ?_
  · intro wz hSw
    go_simp
  refine wpAnyH_take (i := 8) (v := .int .i64 n3) rfl (by kernel_rfl) (by kernel_rfl) (by kernel_rfl) (fun _ _ _ h => h) (Or.inl ⟨by kernel_rfl, ?_⟩) hHeld ?_
  · intro wz hSw
    go_simp
  refine wpAnyH_take (i := 9) (v := .int .i64 m) rfl (by kernel_rfl) (by kernel_rfl) (by kernel_rfl) (fun _ _ _ h => h) (Or.inl ⟨by kernel_rfl, ?_⟩) hHeld ?_
  · intro wz hSw
    go_simp
    first | done | ((try rw [Int.tdiv_eq_ediv_of_nonneg (by omega)]); (try rw [Int.tmod_eq_emod_of_nonneg (by omega)]); (try rw [IntKind.wrap_i64]); (try omega))
  try simp only [Act.put, List.getElem_toArray, List.getElem_cons_succ, List.getElem_cons_zero, List.setIfInBounds_toArray, List.set_cons_zero, List.set_cons_succ]
  refine wpAnyH_take (i := 10) (v := .pointer (some ⟨gb, go + m, none⟩)) rfl (by kernel_rfl) (by kernel_rfl) (by kernel_rfl) (fun _ _ _ h => h) (Or.inl ⟨by kernel_rfl, ?_⟩) hHeld ?_
  · intro wz hSw
    go_simp
    first | done | ((try rw [Int.tdiv_eq_ediv_of_nonneg (by omega)]); (try rw [Int.tmod_eq_emod_of_nonneg (by omega)]); (try rw [IntKind.wrap_i64]); (try omega))
  refine wpAnyH_take (i := 11) (v := .string y) rfl (by kernel_rfl) (by kernel_rfl) (by kernel_rfl) (fun _ _ _ h => h) (Or.inl ⟨by kernel_rfl, ?_⟩) hHeld ?_
  · intro wz hSw
    have hh := (hSw.cell (p := ⟨gb, go + m, none⟩) HSZ.out.2).trans HCY.out
    go_simp
  refine wpAnyH_ready (rs := [12, 16]) (by kernel_rfl) (by simp) ?_
  refine (AllReadyH.cons rfl (fun Kc hK => ?_) (AllReadyH.cons rfl (fun Kc hK => ?_) AllReadyH.nil))
  · go_simp
    have hje := junk_end (HDd.out.st.ends 1 (by decide)) (by have := (HDd.out.len 1 (by decide)).1; omega) (by have := (HDd.out.len 0 (by decide)).1; exact Nat.le_trans this (by decide)) (by have := HDd.out.st.ear 1 (by decide); omega) y (by have := HY.out.1; omega) HY.out.2
    unfold EndV.v End8 at hje
    rw [HSH.out.1, HSH.out.2.1, HSH.out.2.2] at hje
    go_at_call 14
    refine hje.mono ?_
    rintro er wt ⟨rfl, hb⟩
    clear hje
    have HBt := Lib.hid hb
    clear hb
    go_wp2_with fail
    refine hK.out _ _ HBt.out (fun hHeld => ?_)
    clear hK Kc
    try simp only [Act.put, List.getElem_toArray, List.getElem_cons_succ, List.getElem_cons_zero, List.setIfInBounds_toArray, List.set_cons_zero, List.set_cons_succ]
    refine wpAnyH_take (i := 13) (v := .tuple #[.agg #[.int .u64 7, .int .i64 (E 1).base, .slice Ao no co, .slice Aw nw cw, .int .i64 (E 1).next, .slice Ae ne cq, .int .i64 (E 1).idle, .bool (E 1).dead], .slice none 0 0]) rfl (by kernel_rfl) (by kernel_rfl) (by kernel_rfl) (fun _ _ _ h => h) (Or.inl ⟨by kernel_rfl, ?_⟩) hHeld ?_
    · intro wz hSw
      go_simp
    refine wpAnyH_take (i := 14) (v := .agg #[.int .u64 7, .int .i64 (E 1).base, .slice Ao no co, .slice Aw nw cw, .int .i64 (E 1).next, .slice Ae ne cq, .int .i64 (E 1).idle, .bool (E 1).dead]) rfl (by kernel_rfl) (by kernel_rfl) (by kernel_rfl) (fun _ _ _ h => h) (Or.inl ⟨by kernel_rfl, ?_⟩) hHeld ?_
    · intro wz hSw
      go_simp
    refine wpAnyH_take (i := 15) (v := .slice none 0 0) rfl (by kernel_rfl) (by kernel_rfl) (by kernel_rfl) (fun _ _ _ h => h) (Or.inl ⟨by kernel_rfl, ?_⟩) hHeld ?_
    · intro wz hSw
      go_simp
    try simp only [Act.put, List.getElem_toArray, List.getElem_cons_succ, List.getElem_cons_zero, List.setIfInBounds_toArray, List.set_cons_zero, List.set_cons_succ]
    refine wpAnyH_ready (rs := [16]) (by kernel_rfl) (by simp) ?_
    refine (AllReadyH.cons rfl (fun Kc hK => ?_) AllReadyH.nil)
    go_simp
    have HV : Hid ((wt.alloc (.cells #[.int .u64 0, .int .i64 0, .slice none 0 0, .slice none 0 0, .int .i64 0, .slice none 0 0, .int .i64 0, .bool false] 37)).heap[wt.heap.size]? = some (.cells #[.int .u64 0, .int .i64 0, .slice none 0 0, .slice none 0 0, .int .i64 0, .slice none 0 0, .int .i64 0, .bool false] 37)) := World.alloc_heap_new _ _
    have HBV : Hid (Below wd.heap.size wd (wt.alloc (.cells #[.int .u64 0, .int .i64 0, .slice none 0 0, .slice none 0 0, .int .i64 0, .slice none 0 0, .int .i64 0, .bool false] 37))) := HBt.out.alloc HBt.out.size _
    have HQB : Hid (wd.heap.size ≤ wt.heap.size) := HBt.out.size
    obtain ⟨tb, htb⟩ : ∃ q, q = wt.heap.size := ⟨_, rfl⟩
    rw [← htb] at HV HQB ⊢
    clear htb HBt
    generalize wt.alloc (.cells #[.int .u64 0, .int .i64 0, .slice none 0 0, .slice none 0 0, .int .i64 0, .slice none 0 0, .int .i64 0, .bool false] 37) = wv at *
    refine hK.out _ _ HBV.out (fun hHeld => ?_)
    clear hK Kc
    try simp only [Act.put, List.getElem_toArray, List.getElem_cons_succ, List.getElem_cons_zero, List.setIfInBounds_toArray, List.set_cons_zero, List.set_cons_succ]
    have k0 : wv.cell? ⟨tb, 0, none⟩ = some (.int .u64 0) := cells_at HV.out 0
    have k1 : wv.cell? ⟨tb, 1, none⟩ = some (.int .i64 0) := cells_at HV.out 1
    have k2 : wv.cell? ⟨tb, 2, none⟩ = some (.slice none 0 0) := cells_at HV.out 2
    have k3 : wv.cell? ⟨tb, 3, none⟩ = some (.slice none 0 0) := cells_at HV.out 3
    have k4 : wv.cell? ⟨tb, 4, none⟩ = some (.int .i64 0) := cells_at HV.out 4
    have k5 : wv.cell? ⟨tb, 5, none⟩ = some (.slice none 0 0) := cells_at HV.out 5
    have k6 : wv.cell? ⟨tb, 6, none⟩ = some (.int .i64 0) := cells_at HV.out 6
    have k7 : wv.cell? ⟨tb, 7, none⟩ = some (.bool false) := cells_at HV.out 7
    have f0 : wv.frozen? ⟨tb, 0, none⟩ = false := frozen_of_row _ _ _ _ _ HV.out
    have f1 : wv.frozen? ⟨tb, 1, none⟩ = false := frozen_of_row _ _ _ _ _ HV.out
    have f2 : wv.frozen? ⟨tb, 2, none⟩ = false := frozen_of_row _ _ _ _ _ HV.out
    have f3 : wv.frozen? ⟨tb, 3, none⟩ = false := frozen_of_row _ _ _ _ _ HV.out
    have f4 : wv.frozen? ⟨tb, 4, none⟩ = false := frozen_of_row _ _ _ _ _ HV.out
    have f5 : wv.frozen? ⟨tb, 5, none⟩ = false := frozen_of_row _ _ _ _ _ HV.out
    have f6 : wv.frozen? ⟨tb, 6, none⟩ = false := frozen_of_row _ _ _ _ _ HV.out
    have f7 : wv.frozen? ⟨tb, 7, none⟩ = false := frozen_of_row _ _ _ _ _ HV.out
    refine wpAnyH_ready (rs := [17]) (by kernel_rfl) (by simp) ?_
    refine (AllReadyH.cons rfl (fun Kc hK => ?_) AllReadyH.nil)
    go_simp
    obtain ⟨ww, hww⟩ : ∃ q, q = ((((((((wv.setCell ⟨tb, 0, none⟩ (.int .u64 7)).setCell ⟨tb, 1, none⟩ (.int .i64 (E 1).base)).setCell ⟨tb, 2, none⟩ (.slice Ao no co)).setCell ⟨tb, 3, none⟩ (.slice Aw nw cw)).setCell ⟨tb, 4, none⟩ (.int .i64 (E 1).next)).setCell ⟨tb, 5, none⟩ (.slice Ae ne cq)).setCell ⟨tb, 6, none⟩ (.int .i64 (E 1).idle)).setCell ⟨tb, 7, none⟩ (.bool (E 1).dead)) := ⟨_, rfl⟩
    rw [← hww]
    have HB5 : Hid (Below wd.heap.size wd ww) := by
      unfold Hid
      rw [hww]
      exact below_set8o HBV.out HQB.out 0 (.int .u64 7) (.int .i64 (E 1).base) (.slice Ao no co) (.slice Aw nw cw) (.int .i64 (E 1).next) (.slice Ae ne cq) (.int .i64 (E 1).idle) (.bool (E 1).dead)
    have HC5 : Hid (C8 tb 0 (.int .u64 7) (.int .i64 (E 1).base) (.slice Ao no co) (.slice Aw nw cw) (.int .i64 (E 1).next) (.slice Ae ne cq) (.int .i64 (E 1).idle) (.bool (E 1).dead) ww) := by
      unfold Hid
      rw [hww]
      have hz : C8 tb 0 (.int .u64 0) (.int .i64 0) (.slice none 0 0) (.slice none 0 0) (.int .i64 0) (.slice none 0 0) (.int .i64 0) (.bool false) wv := ⟨k0, k1, k2, k3, k4, k5, k6, k7⟩
      exact hz.set (.int .u64 7) (.int .i64 (E 1).base) (.slice Ao no co) (.slice Aw nw cw) (.int .i64 (E 1).next) (.slice Ae ne cq) (.int .i64 (E 1).idle) (.bool (E 1).dead)
    have HT5 : Hid (tb < ww.heap.size) := by
      unfold Hid
      rw [hww]
      simp only [World.size_setCell]
      exact (Array.getElem?_eq_some_iff.1 HV.out).1
    clear HV k0 k1 k2 k3 k4 k5 k6 k7 f0 f1 f2 f3 f4 f5 f6 f7 hww
    refine hK.out _ _ HB5.out (fun hHeld => ?_)
    clear hK Kc
    try simp only [Act.put, List.getElem_toArray, List.getElem_cons_succ, List.getElem_cons_zero, List.setIfInBounds_toArray, List.set_cons_zero, List.set_cons_succ]
    refine wpAnyH_take (i := 18) (v := .slice none 0 0) rfl (by kernel_rfl) (by kernel_rfl) (by kernel_rfl) (fun _ _ _ h => h) (Or.inl ⟨by kernel_rfl, ?_⟩) hHeld ?_
    · intro wz hSw
      go_simp
    refine wpAnyH_done (by kernel_rfl) ?_ _
    refine NoPanic.normal ?_
    go_wp2_with fail
    have HDx := Lib.hid ((HDd.out.below HB5.out).below (Below.refl _ _).drew)
    have HBx := Lib.hid ((HBd.out.trans (HB5.out.mono HBd.out.size)).drew)
    have HCx : Hid (C8 tb 0 (.int .u64 7) (.int .i64 (E 1).base) (.slice Ao no co) (.slice Aw nw cw) (.int .i64 (E 1).next) (.slice Ae ne cq) (.int .i64 (E 1).idle) (.bool (E 1).dead) ww.drew) := HC5.out
    have HTx : Hid (tb < ww.drew.heap.size) := HT5.out
    refine wp_region_noPanic ?_
    refine wp_region_held_drew (S := fun w' => Below ww.drew.heap.size ww.drew w') (by kernel_rfl) (Below.refl _ _) (fun hHeld => ?_)
    clear HC5 HT5 HB5 HDd HBd HBV HCD HCY HSZ
    generalize ww.drew = wx at *
    refine wpAnyH_take (i := 0) (v := .slice none 0 0) rfl (by kernel_rfl) (by kernel_rfl) (by kernel_rfl) (fun _ _ _ h => h) (Or.inl ⟨by kernel_rfl, ?_⟩) hHeld ?_
    · intro wz hSw
      go_simp
    refine wpAnyH_take (i := 1) (v := .int .i64 0) rfl (by kernel_rfl) (by kernel_rfl) (by kernel_rfl) (fun _ _ _ h => h) (Or.inl ⟨by kernel_rfl, ?_⟩) hHeld ?_
    · intro wz hSw
      go_simp
    refine wpAnyH_take (i := 2) (v := .bool false) rfl (by kernel_rfl) (by kernel_rfl) (by kernel_rfl) (fun _ _ _ h => h) (Or.inl ⟨by kernel_rfl, ?_⟩) hHeld ?_
    · intro wz hSw
      go_simp
    refine wpAnyH_take (i := 3) (v := .bool false) rfl (by kernel_rfl) (by kernel_rfl) (by kernel_rfl) (fun _ _ _ h => h) (Or.inl ⟨by kernel_rfl, ?_⟩) hHeld ?_
    · intro wz hSw
      go_simp
    try simp only [Act.put, List.getElem_toArray, List.getElem_cons_succ, List.getElem_cons_zero, List.setIfInBounds_toArray, List.set_cons_zero, List.set_cons_succ]
    refine wpAnyH_take (i := 4) (v := .agg #[.int .u64 7, .int .i64 (E 1).base, .slice Ao no co, .slice Aw nw cw, .int .i64 (E 1).next, .slice Ae ne cq, .int .i64 (E 1).idle, .bool (E 1).dead]) rfl (by kernel_rfl) (by kernel_rfl) (by kernel_rfl) (fun _ _ _ h => h) (Or.inl ⟨by kernel_rfl, ?_⟩) hHeld ?_
    · intro wz hSw
      obtain ⟨z0, z1, z2, z3, z4, z5, z6, z7⟩ := HCx.out
      have q0 := (hSw.cell (p := ⟨tb, 0, none⟩) HTx.out).trans z0
      have q1 := (hSw.cell (p := ⟨tb, 1, none⟩) HTx.out).trans z1
      have q2 := (hSw.cell (p := ⟨tb, 2, none⟩) HTx.out).trans z2
      have q3 := (hSw.cell (p := ⟨tb, 3, none⟩) HTx.out).trans z3
      have q4 := (hSw.cell (p := ⟨tb, 4, none⟩) HTx.out).trans z4
      have q5 := (hSw.cell (p := ⟨tb, 5, none⟩) HTx.out).trans z5
      have q6 := (hSw.cell (p := ⟨tb, 6, none⟩) HTx.out).trans z6
      have q7 := (hSw.cell (p := ⟨tb, 7, none⟩) HTx.out).trans z7
      clear z0 z1 z2 z3 z4 z5 z6 z7
      go_simp
    refine wpAnyH_take (i := 5) (v := .int .i64 1) rfl (by kernel_rfl) (by kernel_rfl) (by kernel_rfl) (fun _ _ _ h => h) (Or.inl ⟨by kernel_rfl, ?_⟩) hHeld ?_
    · intro wz hSw
      go_simp
    refine wpAnyH_take (i := 6) (v := .pointer (some ⟨W.heap.size, 8, none⟩)) rfl (by kernel_rfl) (by kernel_rfl) (by kernel_rfl) (fun _ _ _ h => h) (Or.inl ⟨by kernel_rfl, ?_⟩) hHeld ?_
    · intro wz hSw
      go_simp
    refine wpAnyH_take (i := 7) (v := .agg #[.int .u64 7, .int .i64 (E 1).base, .slice Ao no co, .slice Aw nw cw, .int .i64 (E 1).next, .slice Ae ne cq, .int .i64 (E 1).idle, .bool (E 1).dead]) rfl (by kernel_rfl) (by kernel_rfl) (by kernel_rfl) (fun _ _ _ h => h) (Or.inl ⟨by kernel_rfl, ?_⟩) hHeld ?_
    · intro wz hSw
      have hh := HDx.out.below hSw
      obtain ⟨z0, z1, z2, z3, z4, z5, z6, z7⟩ := hh.st.cel 1 (by decide)
      have q0 : wz.cell? ⟨W.heap.size, 8, none⟩ = some (.int .u64 7) := z0
      have q1 : wz.cell? ⟨W.heap.size, 9, none⟩ = some (.int .i64 (E 1).base) := z1
      have q2 : wz.cell? ⟨W.heap.size, 10, none⟩ = some (.slice Ao no co) := by rw [← HSH.out.1]; exact z2
      have q3 : wz.cell? ⟨W.heap.size, 11, none⟩ = some (.slice Aw nw cw) := by rw [← HSH.out.2.1]; exact z3
      have q4 : wz.cell? ⟨W.heap.size, 12, none⟩ = some (.int .i64 (E 1).next) := z4
      have q5 : wz.cell? ⟨W.heap.size, 13, none⟩ = some (.slice Ae ne cq) := by rw [← HSH.out.2.2]; exact z5
      have q6 : wz.cell? ⟨W.heap.size, 14, none⟩ = some (.int .i64 (E 1).idle) := z6
      have q7 : wz.cell? ⟨W.heap.size, 15, none⟩ = some (.bool (E 1).dead) := z7
      clear z0 z1 z2 z3 z4 z5 z6 z7
      go_simp
    have hEx := HDx.out.st.ends 1 (by decide)
    have hse := esame_any 7 (E 1).base (E 1).next (E 1).idle (E 1).dead _ _ _ _ _ _ _ _ wx hEx.o.1 hEx.o.1 hEx.w.1 hEx.w.1 hEx.f.1
    unfold End8 at hse
    rw [HSH.out.1, HSH.out.2.1, HSH.out.2.2] at hse
    refine wpAnyH_ready (rs := [8]) (by kernel_rfl) (by simp) ?_
    refine (AllReadyH.cons rfl (fun Kc hK => ?_) AllReadyH.nil)
    go_simp
    go_at_call 15
    refine hse.mono ?_
    rintro er w6 ⟨rfl, hb⟩
    have HB6 := Lib.hid (HBx.out.trans (hb.mono HBx.out.size))
    have HD6 := Lib.hid (HDx.out.below hb)
    have HS6 := Lib.hid hb
    clear hb hse hEx HDx HBx HCx HTx
    go_wp2_with fail
    refine hK.out _ _ HS6.out (fun hHeld => ?_)
    clear hK Kc
    try simp only [Act.put, List.getElem_toArray, List.getElem_cons_succ, List.getElem_cons_zero, List.setIfInBounds_toArray, List.set_cons_zero, List.set_cons_succ]
    refine wpAnyH_take (i := 9) (v := .bool false) rfl (by kernel_rfl) (by kernel_rfl) (by kernel_rfl) (fun _ _ _ h => h) (Or.inl ⟨by kernel_rfl, ?_⟩) hHeld ?_
    · intro wz hSw
      go_simp
    try simp only [Act.put, List.getElem_toArray, List.getElem_cons_succ, List.getElem_cons_zero, List.setIfInBounds_toArray, List.set_cons_zero, List.set_cons_succ]
    refine wpAnyH_take (i := 10) (v := .bool false) rfl (by kernel_rfl) (by kernel_rfl) (by kernel_rfl) (fun _ _ _ h => h) (Or.inl ⟨by kernel_rfl, ?_⟩) hHeld ?_
    · intro wz hSw
      go_simp
    refine wpAnyH_done (by kernel_rfl) ?_ _
    refine NoPanic.normal ?_
    clear hm hm' hq hq'
    go_wp2_with fail
    exact HNX.out _ _ _ _ _ _ _ _ _ _ _ _ _ _ _ _ _ _ _ _ _ _ _ _ _ _ _ _ _ _ _ _ _ _ _ _ _ _ _ _ _ _ _ _ _ _ _ _ _ _ _ _ _ _ _ _ _ _ _ _ _ _ _ _ _ _ _ _ _ _ _ _ _ _ _ _ _ _ _ _ _ _ _ _ _ _ _ _ _ _ _ _ _ _ _ _ _ _ _ _ _ _ _ _ _ _ _ _ _ _ _ (⟨S, v, l, E, K, HD6.out.more (by omega)⟩) (HB6.out)
  · go_simp
    have HV0 : Hid ((wd.alloc (.cells #[.int .u64 0, .int .i64 0, .slice none 0 0, .slice none 0 0, .int .i64 0, .slice none 0 0, .int .i64 0, .bool false] 37)).heap[wd.heap.size]? = some (.cells #[.int .u64 0, .int .i64 0, .slice none 0 0, .slice none 0 0, .int .i64 0, .slice none 0 0, .int .i64 0, .bool false] 37)) := World.alloc_heap_new _ _
    have HBA : Hid (Below wd.heap.size wd (wd.alloc (.cells #[.int .u64 0, .int .i64 0, .slice none 0 0, .slice none 0 0, .int .i64 0, .slice none 0 0, .int .i64 0, .bool false] 37))) := (Below.refl _ _).alloc (Nat.le_refl _) _
    have HQQ : Hid (wd.heap.size < (wd.alloc (.cells #[.int .u64 0, .int .i64 0, .slice none 0 0, .slice none 0 0, .int .i64 0, .slice none 0 0, .int .i64 0, .bool false] 37)).heap.size) := by unfold Hid; rw [World.size_alloc]; omega
    obtain ⟨tb, htb⟩ : ∃ q, q = wd.heap.size := ⟨_, rfl⟩
    have HQB : Hid (wd.heap.size ≤ tb) := by unfold Hid; omega
    rw [← htb] at HV0 HQQ ⊢
    clear htb
    generalize wd.alloc (.cells #[.int .u64 0, .int .i64 0, .slice none 0 0, .slice none 0 0, .int .i64 0, .slice none 0 0, .int .i64 0, .bool false] 37) = wa' at *
    refine hK.out _ _ HBA.out (fun hHeld => ?_)
    clear hK Kc
    try simp only [Act.put, List.getElem_toArray, List.getElem_cons_succ, List.getElem_cons_zero, List.setIfInBounds_toArray, List.set_cons_zero, List.set_cons_succ]
    refine wpAnyH_ready (rs := [12]) (by kernel_rfl) (by simp) ?_
    refine (AllReadyH.cons rfl (fun Kc hK => ?_) AllReadyH.nil)
    go_simp
    have hje := junk_end ((HDd.out.below HBA.out).st.ends 1 (by decide)) (by have := ((HDd.out.below HBA.out).len 1 (by decide)).1; omega) (by have := ((HDd.out.below HBA.out).len 0 (by decide)).1; exact Nat.le_trans this (by decide)) (by have := (HDd.out.below HBA.out).st.ear 1 (by decide); omega) y (by have := HY.out.1; omega) HY.out.2
    unfold EndV.v End8 at hje
    rw [HSH.out.1, HSH.out.2.1, HSH.out.2.2] at hje
    go_at_call 14
    refine hje.mono ?_
    rintro er wt ⟨rfl, hb⟩
    clear hje
    have HBV : Hid (Below wd.heap.size wd wt) := HBA.out.trans (hb.mono HBA.out.size)
    have HV : Hid (wt.heap[tb]? = some (.cells #[.int .u64 0, .int .i64 0, .slice none 0 0, .slice none 0 0, .int .i64 0, .slice none 0 0, .int .i64 0, .bool false] 37)) := (hb.block _ HQQ.out).trans HV0.out
    clear hb HV0 HQQ HBA
    go_wp2_with fail
    refine hK.out _ _ HBV.out (fun hHeld => ?_)
    clear hK Kc
    try simp only [Act.put, List.getElem_toArray, List.getElem_cons_succ, List.getElem_cons_zero, List.setIfInBounds_toArray, List.set_cons_zero, List.set_cons_succ]
    refine wpAnyH_take (i := 13) (v := .tuple #[.agg #[.int .u64 7, .int .i64 (E 1).base, .slice Ao no co, .slice Aw nw cw, .int .i64 (E 1).next, .slice Ae ne cq, .int .i64 (E 1).idle, .bool (E 1).dead], .slice none 0 0]) rfl (by kernel_rfl) (by kernel_rfl) (by kernel_rfl) (fun _ _ _ h => h) (Or.inl ⟨by kernel_rfl, ?_⟩) hHeld ?_
    · intro wz hSw
      go_simp
    refine wpAnyH_take (i := 14) (v := .agg #[.int .u64 7, .int .i64 (E 1).base, .slice Ao no co, .slice Aw nw cw, .int .i64 (E 1).next, .slice Ae ne cq, .int .i64 (E 1).idle, .bool (E 1).dead]) rfl (by kernel_rfl) (by kernel_rfl) (by kernel_rfl) (fun _ _ _ h => h) (Or.inl ⟨by kernel_rfl, ?_⟩) hHeld ?_
    · intro wz hSw
      go_simp
    refine wpAnyH_take (i := 15) (v := .slice none 0 0) rfl (by kernel_rfl) (by kernel_rfl) (by kernel_rfl) (fun _ _ _ h => h) (Or.inl ⟨by kernel_rfl, ?_⟩) hHeld ?_
    · intro wz hSw
      go_simp
    have k0 : wt.cell? ⟨tb, 0, none⟩ = some (.int .u64 0) := cells_at HV.out 0
    have k1 : wt.cell? ⟨tb, 1, none⟩ = some (.int .i64 0) := cells_at HV.out 1
    have k2 : wt.cell? ⟨tb, 2, none⟩ = some (.slice none 0 0) := cells_at HV.out 2
    have k3 : wt.cell? ⟨tb, 3, none⟩ = some (.slice none 0 0) := cells_at HV.out 3
    have k4 : wt.cell? ⟨tb, 4, none⟩ = some (.int .i64 0) := cells_at HV.out 4
    have k5 : wt.cell? ⟨tb, 5, none⟩ = some (.slice none 0 0) := cells_at HV.out 5
    have k6 : wt.cell? ⟨tb, 6, none⟩ = some (.int .i64 0) := cells_at HV.out 6
    have k7 : wt.cell? ⟨tb, 7, none⟩ = some (.bool false) := cells_at HV.out 7
    have f0 : wt.frozen? ⟨tb, 0, none⟩ = false := frozen_of_row _ _ _ _ _ HV.out
    have f1 : wt.frozen? ⟨tb, 1, none⟩ = false := frozen_of_row _ _ _ _ _ HV.out
    have f2 : wt.frozen? ⟨tb, 2, none⟩ = false := frozen_of_row _ _ _ _ _ HV.out
    have f3 : wt.frozen? ⟨tb, 3, none⟩ = false := frozen_of_row _ _ _ _ _ HV.out
    have f4 : wt.frozen? ⟨tb, 4, none⟩ = false := frozen_of_row _ _ _ _ _ HV.out
    have f5 : wt.frozen? ⟨tb, 5, none⟩ = false := frozen_of_row _ _ _ _ _ HV.out
    have f6 : wt.frozen? ⟨tb, 6, none⟩ = false := frozen_of_row _ _ _ _ _ HV.out
    have f7 : wt.frozen? ⟨tb, 7, none⟩ = false := frozen_of_row _ _ _ _ _ HV.out
    refine wpAnyH_ready (rs := [17]) (by kernel_rfl) (by simp) ?_
    refine (AllReadyH.cons rfl (fun Kc hK => ?_) AllReadyH.nil)
    go_simp
    obtain ⟨ww, hww⟩ : ∃ q, q = ((((((((wt.setCell ⟨tb, 0, none⟩ (.int .u64 7)).setCell ⟨tb, 1, none⟩ (.int .i64 (E 1).base)).setCell ⟨tb, 2, none⟩ (.slice Ao no co)).setCell ⟨tb, 3, none⟩ (.slice Aw nw cw)).setCell ⟨tb, 4, none⟩ (.int .i64 (E 1).next)).setCell ⟨tb, 5, none⟩ (.slice Ae ne cq)).setCell ⟨tb, 6, none⟩ (.int .i64 (E 1).idle)).setCell ⟨tb, 7, none⟩ (.bool (E 1).dead)) := ⟨_, rfl⟩
    rw [← hww]
    have HB5 : Hid (Below wd.heap.size wd ww) := by
      unfold Hid
      rw [hww]
      exact below_set8o HBV.out HQB.out 0 (.int .u64 7) (.int .i64 (E 1).base) (.slice Ao no co) (.slice Aw nw cw) (.int .i64 (E 1).next) (.slice Ae ne cq) (.int .i64 (E 1).idle) (.bool (E 1).dead)
    have HC5 : Hid (C8 tb 0 (.int .u64 7) (.int .i64 (E 1).base) (.slice Ao no co) (.slice Aw nw cw) (.int .i64 (E 1).next) (.slice Ae ne cq) (.int .i64 (E 1).idle) (.bool (E 1).dead) ww) := by
      unfold Hid
      rw [hww]
      have hz : C8 tb 0 (.int .u64 0) (.int .i64 0) (.slice none 0 0) (.slice none 0 0) (.int .i64 0) (.slice none 0 0) (.int .i64 0) (.bool false) wt := ⟨k0, k1, k2, k3, k4, k5, k6, k7⟩
      exact hz.set (.int .u64 7) (.int .i64 (E 1).base) (.slice Ao no co) (.slice Aw nw cw) (.int .i64 (E 1).next) (.slice Ae ne cq) (.int .i64 (E 1).idle) (.bool (E 1).dead)
    have HT5 : Hid (tb < ww.heap.size) := by
      unfold Hid
      rw [hww]
      simp only [World.size_setCell]
      exact (Array.getElem?_eq_some_iff.1 HV.out).1
    clear HV k0 k1 k2 k3 k4 k5 k6 k7 f0 f1 f2 f3 f4 f5 f6 f7 hww
    refine hK.out _ _ HB5.out (fun hHeld => ?_)
    clear hK Kc
    try simp only [Act.put, List.getElem_toArray, List.getElem_cons_succ, List.getElem_cons_zero, List.setIfInBounds_toArray, List.set_cons_zero, List.set_cons_succ]
    refine wpAnyH_take (i := 18) (v := .slice none 0 0) rfl (by kernel_rfl) (by kernel_rfl) (by kernel_rfl) (fun _ _ _ h => h) (Or.inl ⟨by kernel_rfl, ?_⟩) hHeld ?_
    · intro wz hSw
      go_simp
    refine wpAnyH_done (by kernel_rfl) ?_ _
    refine NoPanic.normal ?_
    go_wp2_with fail
    have HDx := Lib.hid ((HDd.out.below HB5.out).below (Below.refl _ _).drew)
    have HBx := Lib.hid ((HBd.out.trans (HB5.out.mono HBd.out.size)).drew)
    have HCx : Hid (C8 tb 0 (.int .u64 7) (.int .i64 (E 1).base) (.slice Ao no co) (.slice Aw nw cw) (.int .i64 (E 1).next) (.slice Ae ne cq) (.int .i64 (E 1).idle) (.bool (E 1).dead) ww.drew) := HC5.out
    have HTx : Hid (tb < ww.drew.heap.size) := HT5.out
    refine wp_region_noPanic ?_
    refine wp_region_held_drew (S := fun w' => Below ww.drew.heap.size ww.drew w') (by kernel_rfl) (Below.refl _ _) (fun hHeld => ?_)
    clear HC5 HT5 HB5 HDd HBd HBV HCD HCY HSZ
    generalize ww.drew = wx at *
    refine wpAnyH_take (i := 0) (v := .slice none 0 0) rfl (by kernel_rfl) (by kernel_rfl) (by kernel_rfl) (fun _ _ _ h => h) (Or.inl ⟨by kernel_rfl, ?_⟩) hHeld ?_
    · intro wz hSw
      go_simp
    refine wpAnyH_take (i := 1) (v := .int .i64 0) rfl (by kernel_rfl) (by kernel_rfl) (by kernel_rfl) (fun _ _ _ h => h) (Or.inl ⟨by kernel_rfl, ?_⟩) hHeld ?_
    · intro wz hSw
      go_simp
    refine wpAnyH_take (i := 2) (v := .bool false) rfl (by kernel_rfl) (by kernel_rfl) (by kernel_rfl) (fun _ _ _ h => h) (Or.inl ⟨by kernel_rfl, ?_⟩) hHeld ?_
    · intro wz hSw
      go_simp
    refine wpAnyH_take (i := 3) (v := .bool false) rfl (by kernel_rfl) (by kernel_rfl) (by kernel_rfl) (fun _ _ _ h => h) (Or.inl ⟨by kernel_rfl, ?_⟩) hHeld ?_
    · intro wz hSw
      go_simp
    refine wpAnyH_take (i := 4) (v := .agg #[.int .u64 7, .int .i64 (E 1).base, .slice Ao no co, .slice Aw nw cw, .int .i64 (E 1).next, .slice Ae ne cq, .int .i64 (E 1).idle, .bool (E 1).dead]) rfl (by kernel_rfl) (by kernel_rfl) (by kernel_rfl) (fun _ _ _ h => h) (Or.inl ⟨by kernel_rfl, ?_⟩) hHeld ?_
    · intro wz hSw
      obtain ⟨z0, z1, z2, z3, z4, z5, z6, z7⟩ := HCx.out
      have q0 := (hSw.cell (p := ⟨tb, 0, none⟩) HTx.out).trans z0
      have q1 := (hSw.cell (p := ⟨tb, 1, none⟩) HTx.out).trans z1
      have q2 := (hSw.cell (p := ⟨tb, 2, none⟩) HTx.out).trans z2
      have q3 := (hSw.cell (p := ⟨tb, 3, none⟩) HTx.out).trans z3
      have q4 := (hSw.cell (p := ⟨tb, 4, none⟩) HTx.out).trans z4
      have q5 := (hSw.cell (p := ⟨tb, 5, none⟩) HTx.out).trans z5
      have q6 := (hSw.cell (p := ⟨tb, 6, none⟩) HTx.out).trans z6
      have q7 := (hSw.cell (p := ⟨tb, 7, none⟩) HTx.out).trans z7
      clear z0 z1 z2 z3 z4 z5 z6 z7
      go_simp
    try simp only [Act.put, List.getElem_toArray, List.getElem_cons_succ, List.getElem_cons_zero, List.setIfInBounds_toArray, List.set_cons_zero, List.set_cons_succ]
    refine wpAnyH_take (i := 5) (v := .int .i64 1) rfl (by kernel_rfl) (by kernel_rfl) (by kernel_rfl) (fun _ _ _ h => h) (Or.inl ⟨by kernel_rfl, ?_⟩) hHeld ?_
    · intro wz hSw
      go_simp
    refine wpAnyH_take (i := 6) (v := .pointer (some ⟨W.heap.size, 8, none⟩)) rfl (by kernel_rfl) (by kernel_rfl) (by kernel_rfl) (fun _ _ _ h => h) (Or.inl ⟨by kernel_rfl, ?_⟩) hHeld ?_
    · intro wz hSw
      go_simp
    refine wpAnyH_take (i := 7) (v := .agg #[.int .u64 7, .int .i64 (E 1).base, .slice Ao no co, .slice Aw nw cw, .int .i64 (E 1).next, .slice Ae ne cq, .int .i64 (E 1).idle, .bool (E 1).dead]) rfl (by kernel_rfl) (by kernel_rfl) (by kernel_rfl) (fun _ _ _ h => h) (Or.inl ⟨by kernel_rfl, ?_⟩) hHeld ?_
    · intro wz hSw
      have hh := HDx.out.below hSw
      obtain ⟨z0, z1, z2, z3, z4, z5, z6, z7⟩ := hh.st.cel 1 (by decide)
      have q0 : wz.cell? ⟨W.heap.size, 8, none⟩ = some (.int .u64 7) := z0
      have q1 : wz.cell? ⟨W.heap.size, 9, none⟩ = some (.int .i64 (E 1).base) := z1
      have q2 : wz.cell? ⟨W.heap.size, 10, none⟩ = some (.slice Ao no co) := by rw [← HSH.out.1]; exact z2
      have q3 : wz.cell? ⟨W.heap.size, 11, none⟩ = some (.slice Aw nw cw) := by rw [← HSH.out.2.1]; exact z3
      have q4 : wz.cell? ⟨W.heap.size, 12, none⟩ = some (.int .i64 (E 1).next) := z4
      have q5 : wz.cell? ⟨W.heap.size, 13, none⟩ = some (.slice Ae ne cq) := by rw [← HSH.out.2.2]; exact z5
      have q6 : wz.cell? ⟨W.heap.size, 14, none⟩ = some (.int .i64 (E 1).idle) := z6
      have q7 : wz.cell? ⟨W.heap.size, 15, none⟩ = some (.bool (E 1).dead) := z7
      clear z0 z1 z2 z3 z4 z5 z6 z7
      go_simp
    have hEx := HDx.out.st.ends 1 (by decide)
    have hse := esame_any 7 (E 1).base (E 1).next (E 1).idle (E 1).dead _ _ _ _ _ _ _ _ wx hEx.o.1 hEx.o.1 hEx.w.1 hEx.w.1 hEx.f.1
    unfold End8 at hse
    rw [HSH.out.1, HSH.out.2.1, HSH.out.2.2] at hse
    refine wpAnyH_ready (rs := [8]) (by kernel_rfl) (by simp) ?_
    refine (AllReadyH.cons rfl (fun Kc hK => ?_) AllReadyH.nil)
    go_simp
    go_at_call 15
    refine hse.mono ?_
    rintro er w6 ⟨rfl, hb⟩
    have HB6 := Lib.hid (HBx.out.trans (hb.mono HBx.out.size))
    have HD6 := Lib.hid (HDx.out.below hb)
    have HS6 := Lib.hid hb
    clear hb hse hEx HDx HBx HCx HTx
    go_wp2_with fail
    refine hK.out _ _ HS6.out (fun hHeld => ?_)
    clear hK Kc
    try simp only [Act.put, List.getElem_toArray, List.getElem_cons_succ, List.getElem_cons_zero, List.setIfInBounds_toArray, List.set_cons_zero, List.set_cons_succ]
    refine wpAnyH_take (i := 9) (v := .bool false) rfl (by kernel_rfl) (by kernel_rfl) (by kernel_rfl) (fun _ _ _ h => h) (Or.inl ⟨by kernel_rfl, ?_⟩) hHeld ?_
    · intro wz hSw
      go_simp
    refine wpAnyH_take (i := 10) (v := .bool false) rfl (by kernel_rfl) (by kernel_rfl) (by kernel_rfl) (fun _ _ _ h => h) (Or.inl ⟨by kernel_rfl, ?_⟩) hHeld ?_
    · intro wz hSw
      go_simp
    refine wpAnyH_done (by kernel_rfl) ?_ _
    refine NoPanic.normal ?_
    clear hm hm' hq hq'
    go_wp2_with fail
    exact HNX.out _ _ _ _ _ _ _ _ _ _ _ _ _ _ _ _ _ _ _ _ _ _ _ _ _ _ _ _ _ _ _ _ _ _ _ _ _ _ _ _ _ _ _ _ _ _ _ _ _ _ _ _ _ _ _ _ _ _ _ _ _ _ _ _ _ _ _ _ _ _ _ _ _ _ _ _ _ _ _ _ _ _ _ _ _ _ _ _ _ _ _ _ _ _ _ _ _ _ _ _ _ _ _ _ _ _ _ _ _ _ _ (⟨S, v, l, E, K, HD6.out.more (by omega)⟩) (HB6.out)
set_option maxRecDepth 100000 in
set_option maxHeartbeats 8000000 in
theorem todo_tick1 (W : World) (A3 : Option Addr) (n3 c3 : Nat) (x3 : List ByteArray) (n2 c2 gd od : Nat) (q0 q1 q2 q4 q5 q6 q7 q13 q14 q15 q16 q17 q18 q19 q20 q21 q22 q23 q29 q30 q31 q32 q33 q34 q35 q36 q37 q38 q39 q40 q41 q42 q43 q44 q45 q46 q47 q48 q49 q50 q51 q52 q53 q54 q55 q56 q57 q58 q59 q60 q61 q62 q63 q64 q65 q66 q67 q68 q69 q70 q71 q72 q73 q74 q75 q76 q77 q78 q79 q80 q81 q82 q83 q84 q85 q86 q87 q88 q89 q90 q91 q92 q93 q94 q95 q96 q97 q98 q99 q100 q101 q102 q103 q104 q105 q106 q107 q108 q109 q110 q111 q112 q113 q114 q115 q116 q117 q118 q119 q120 q228 q229 q230 q231 q232 q233 q234 q235 q236 q237 q238 q239 q240 q241 q242 q243 q244 q245 q246 q247 q248 q249 q250 q251 q252 q253 q254 q255 q256 : Value) (u8 u24 u25 u26 u27 u28 u124 u125 u126 u127 u128 u129 u130 u131 u132 u133 u134 u135 u136 u137 u138 u139 u140 u141 u142 u143 u144 u145 u146 u147 u148 u149 u150 u151 u152 u153 u154 u155 u156 u157 u158 u159 u160 u161 u162 u163 u164 u165 u166 u167 u168 u169 u170 u171 u172 u173 u174 u175 u176 u177 u178 u179 u180 u181 u182 u183 u184 u185 u186 u187 u188 u189 u190 u191 u192 u193 u194 u195 u196 u197 u198 u199 u200 u201 u202 u203 u204 u205 u206 u207 u208 u209 u210 u211 u212 u213 u214 u215 u216 u217 u218 u219 u220 u221 u222 u223 u224 u225 u226 u227 : Value) (wr : World) (j ka kb kc : Nat) (S : Nat → List ByteArray) (v : Nat → Value) (l : Nat → List ByteArray) (E : Nat → EndV) (K : Nat → Nat) (Q : Exit → Act → World → Prop) (HL3 : Hid (StrsN W (.slice A3 n3 c3) x3)) (HN3 : Hid (x3.length = n3)) (HJA : Hid (∀ y ∈ x3, JK y)) (g2 : n2 ≤ 120) (g3 : n3 ≤ 20) (hlt : j < n2) (h256 : ka < 256 ∧ kb < 256 ∧ kc < 256) (e0 : wr.cell? ⟨gd, od + j * 3, none⟩ = some (.int .u8 ka)) (e1 : wr.cell? ⟨gd, od + j * 3 + 1, none⟩ = some (.int .u8 kb)) (e2 : wr.cell? ⟨gd, od + j * 3 + 2, none⟩ = some (.int .u8 kc)) (HB : Hid (Below W.heap.size W wr)) (hD : TdS W.heap.size j S v l E K K wr) (hm : ka % 2 = 1) (hq : kb % 3 = 0) (HNX : Hid (∀ (v8 v24 v25 v26 v27 v28 v124 v125 v126 v127 v128 v129 v130 v131 v132 v133 v134 v135 v136 v137 v138 v139 v140 v141 v142 v143 v144 v145 v146 v147 v148 v149 v150 v151 v152 v153 v154 v155 v156 v157 v158 v159 v160 v161 v162 v163 v164 v165 v166 v167 v168 v169 v170 v171 v172 v173 v174 v175 v176 v177 v178 v179 v180 v181 v182 v183 v184 v185 v186 v187 v188 v189 v190 v191 v192 v193 v194 v195 v196 v197 v198 v199 v200 v201 v202 v203 v204 v205 v206 v207 v208 v209 v210 v211 v212 v213 v214 v215 v216 v217 v218 v219 v220 v221 v222 v223 v224 v225 v226 v227 : Value) (w' : World), TX W.heap.size (j + 1) w' → Below W.heap.size W w' → Q .normal ⟨#[q0, q1, q2, .slice A3 n3 c3, q4, q5, q6, q7, v8, .pointer (some ⟨W.heap.size, 0, none⟩), .pointer (some ⟨W.heap.size + 1, 0, none⟩), .pointer (some ⟨W.heap.size + 1 + 1, 0, none⟩), .pointer (some ⟨W.heap.size + 1 + 1 + 1, 0, none⟩), q13, q14, q15, q16, q17, q18, q19, q20, q21, q22, q23, v24, v25, v26, v27, v28, q29, q30, q31, q32, q33, q34, q35, q36, q37, q38, q39, q40, q41, q42, q43, q44, q45, q46, q47, q48, q49, q50, q51, q52, q53, q54, q55, q56, q57, q58, q59, q60, q61, q62, q63, q64, q65, q66, q67, q68, q69, q70, q71, q72, q73, q74, q75, q76, q77, q78, q79, q80, q81, q82, q83, q84, q85, q86, q87, q88, q89, q90, q91, q92, q93, q94, q95, q96, q97, q98, q99, q100, q101, q102, q103, q104, q105, q106, q107, q108, q109, q110, q111, q112, q113, q114, q115, q116, q117, q118, q119, q120, .slice (some ⟨gd, od, none⟩) n2 c2, .int .i64 n2, .int .i64 ((j : Int) + 1), v124, v125, v126, v127, v128, v129, v130, v131, v132, v133, v134, v135, v136, v137, v138, v139, v140, v141, v142, v143, v144, v145, v146, v147, v148, v149, v150, v151, v152, v153, v154, v155, v156, v157, v158, v159, v160, v161, v162, v163, v164, v165, v166, v167, v168, v169, v170, v171, v172, v173, v174, v175, v176, v177, v178, v179, v180, v181, v182, v183, v184, v185, v186, v187, v188, v189, v190, v191, v192, v193, v194, v195, v196, v197, v198, v199, v200, v201, v202, v203, v204, v205, v206, v207, v208, v209, v210, v211, v212, v213, v214, v215, v216, v217, v218, v219, v220, v221, v222, v223, v224, v225, v226, v227, q228, q229, q230, q231, q232, q233, q234, q235, q236, q237, q238, q239, q240, q241, q242, q243, q244, q245, q246, q247, q248, q249, q250, q251, q252, q253, q254, q255, q256], []⟩ w')) :
    Code.wp Try.prog todoBody Q ⟨#[q0, q1, q2, .slice A3 n3 c3, q4, q5, q6, q7, u8, .pointer (some ⟨W.heap.size, 0, none⟩), .pointer (some ⟨W.heap.size + 1, 0, none⟩), .pointer (some ⟨W.heap.size + 1 + 1, 0, none⟩), .pointer (some ⟨W.heap.size + 1 + 1 + 1, 0, none⟩), q13, q14, q15, q16, q17, q18, q19, q20, q21, q22, q23, u24, u25, u26, u27, u28, q29, q30, q31, q32, q33, q34, q35, q36, q37, q38, q39, q40, q41, q42, q43, q44, q45, q46, q47, q48, q49, q50, q51, q52, q53, q54, q55, q56, q57, q58, q59, q60, q61, q62, q63, q64, q65, q66, q67, q68, q69, q70, q71, q72, q73, q74, q75, q76, q77, q78, q79, q80, q81, q82, q83, q84, q85, q86, q87, q88, q89, q90, q91, q92, q93, q94, q95, q96, q97, q98, q99, q100, q101, q102, q103, q104, q105, q106, q107, q108, q109, q110, q111, q112, q113, q114, q115, q116, q117, q118, q119, q120, .slice (some ⟨gd, od, none⟩) n2 c2, .int .i64 n2, .int .i64 j, u124, u125, u126, u127, u128, u129, u130, u131, u132, u133, u134, u135, u136, u137, u138, u139, u140, u141, u142, u143, u144, u145, u146, u147, u148, u149, u150, u151, u152, u153, u154, u155, u156, u157, u158, u159, u160, u161, u162, u163, u164, u165, u166, u167, u168, u169, u170, u171, u172, u173, u174, u175, u176, u177, u178, u179, u180, u181, u182, u183, u184, u185, u186, u187, u188, u189, u190, u191, u192, u193, u194, u195, u196, u197, u198, u199, u200, u201, u202, u203, u204, u205, u206, u207, u208, u209, u210, u211, u212, u213, u214, u215, u216, u217, u218, u219, u220, u221, u222, u223, u224, u225, u226, u227, q228, q229, q230, q231, q232, q233, q234, q235, q236, q237, q238, q239, q240, q241, q242, q243, q244, q245, q246, q247, q248, q249, q250, q251, q252, q253, q254, q255, q256], []⟩ wr := by
  have hlt' : (j : Int) < (n2 : Int) := by omega
  obtain ⟨h256a, h256b, h256c⟩ := h256
  have hbC : Below wr.heap.size wr (wr.alloc (.cells #[.int .u8 ka, .int .u8 kb, .int .u8 kc] 45)) := (Below.refl _ _).alloc (Nat.le_refl _) _
  have HD := Lib.hid hD
  have HD2 := Lib.hid (hD.below hbC)
  have HBC := Lib.hid (HB.out.trans (hbC.mono HB.out.size))
  clear hD hbC HB
  have hm' : (ka : Int) % 2 = 1 := by omega
  have hq' : (kb : Int) % 3 = 0 := by omega
  have hN0 : W.heap.size < wr.heap.size := by have := HD.out.st.siz; omega
  obtain ⟨z0, z1, z2, z3, z4, z5, z6, z7⟩ := HD.out.st.cel 1 (by decide)
  have k0 : wr.cell? ⟨W.heap.size, 8, none⟩ = some (.int .u64 7) := z0
  have k1 : wr.cell? ⟨W.heap.size, 9, none⟩ = some (.int .i64 (E 1).base) := z1
  have k2 : wr.cell? ⟨W.heap.size, 10, none⟩ = some (E 1).vo := z2
  have k3 : wr.cell? ⟨W.heap.size, 11, none⟩ = some (E 1).vw := z3
  have k4 : wr.cell? ⟨W.heap.size, 12, none⟩ = some (.int .i64 (E 1).next) := z4
  have k5 : wr.cell? ⟨W.heap.size, 13, none⟩ = some (E 1).ve := z5
  have k6 : wr.cell? ⟨W.heap.size, 14, none⟩ = some (.int .i64 (E 1).idle) := z6
  have k7 : wr.cell? ⟨W.heap.size, 15, none⟩ = some (.bool (E 1).dead) := z7
  clear z0 z1 z2 z3 z4 z5 z6 z7
  conv => arg 2; whnf
  go_wp2_with fail
  refine (tick_end HD2.out.st.led (HD2.out.st.ends 1 (by decide)) (by have := (HD2.out.len 1 (by decide)).1; omega) (by have := (HD2.out.len 0 (by decide)).1; exact Nat.le_trans this (by decide)) (HD2.out.len 1 (by decide)).2).mono ?_
  rintro e wt ⟨⟨base', next', idle', dead', vo', vw', ve', lo', lw', le'⟩, u, out, rfl, hE', hu, hout, hfr, hle, hnx, hb⟩
  have hD3 := HD2.out.below hb
  have HB3 := Lib.hid (HBC.out.trans (hb.mono HBC.out.size))
  clear k0 k1 k2 k3 k4 k5 k6 k7 hb
  dsimp only at hle hnx
  have hel : le'.length ≤ j + 1 := by rw [hle]; have := hD3.st.ear 1 (by decide); omega
  have hD4 := (hD3.more (show j ≤ j + 1 by omega)).put 1 (by decide) _ hE' hel (K 1) (hnx.trans (hD3.nxt 1 (by decide)).1) (hD3.nxt 1 (by decide)).2
  rw [updV_self] at hD4
  dsimp only [EndV.v, End8]
  obtain ⟨Ao, co, hvo, lf1, rt1⟩ := hE'.o.1.len
  obtain ⟨Aw, cw, hvw, lf2, rt2⟩ := hE'.w.1.len
  obtain ⟨Ae, ce, hve, lf3, rt3⟩ := hE'.f.len
  obtain ⟨Au, cu, hvu, lf4, rt4⟩ := hu.1.len
  dsimp only at hvo hvw hve
  obtain ⟨no, hno⟩ : ∃ q, q = lo'.length := ⟨_, rfl⟩
  obtain ⟨nw, hnw⟩ : ∃ q, q = lw'.length := ⟨_, rfl⟩
  obtain ⟨ne, hne⟩ : ∃ q, q = le'.length := ⟨_, rfl⟩
  obtain ⟨nu, hnu⟩ : ∃ q, q = out.length := ⟨_, rfl⟩
  rw [← hno] at hvo
  rw [← hnw] at hvw
  rw [← hne] at hve
  rw [← hnu] at hvu
  subst hvo hvw hve hvu
  clear lf1 lf2 lf3 lf4 rt1 rt2 rt3 rt4
  have hu2 := hD3.setStr 1 (by decide) hu (.int .u64 7) (.int .i64 base') (.slice Ao no co) (.slice Aw nw cw) (.int .i64 next') (.slice Ae ne ce) (.int .i64 idle') (.bool dead')
  have hch : set8C wt W.heap.size (1 * 8) (.int .u64 7) (.int .i64 base') (.slice Ao no co) (.slice Aw nw cw) (.int .i64 next') (.slice Ae ne ce) (.int .i64 idle') (.bool dead') = ((((((((wt.setCell ⟨W.heap.size, 8, none⟩ (.int .u64 7)).setCell ⟨W.heap.size, 9, none⟩ (.int .i64 base')).setCell ⟨W.heap.size, 10, none⟩ (.slice Ao no co)).setCell ⟨W.heap.size, 11, none⟩ (.slice Aw nw cw)).setCell ⟨W.heap.size, 12, none⟩ (.int .i64 next')).setCell ⟨W.heap.size, 13, none⟩ (.slice Ae ne ce)).setCell ⟨W.heap.size, 14, none⟩ (.int .i64 idle')).setCell ⟨W.heap.size, 15, none⟩ (.bool dead')) := by simp only [set8C, Nat.zero_mul, Nat.one_mul, Nat.zero_add, Nat.reduceMul, Nat.reduceAdd]
  rw [hch] at hD4 hu2
  obtain ⟨wu, hwu⟩ : ∃ q, q = ((((((((wt.setCell ⟨W.heap.size, 8, none⟩ (.int .u64 7)).setCell ⟨W.heap.size, 9, none⟩ (.int .i64 base')).setCell ⟨W.heap.size, 10, none⟩ (.slice Ao no co)).setCell ⟨W.heap.size, 11, none⟩ (.slice Aw nw cw)).setCell ⟨W.heap.size, 12, none⟩ (.int .i64 next')).setCell ⟨W.heap.size, 13, none⟩ (.slice Ae ne ce)).setCell ⟨W.heap.size, 14, none⟩ (.int .i64 idle')).setCell ⟨W.heap.size, 15, none⟩ (.bool dead')) := ⟨_, rfl⟩
  rw [← hwu] at hD4 hu2
  have HWU := Lib.hid hwu.symm
  have HBU : Hid (Below W.heap.size W wu) := by
    unfold Hid
    rw [hwu]
    exact below_set8o HB3.out (Nat.le_refl _) 8 (.int .u64 7) (.int .i64 base') (.slice Ao no co) (.slice Aw nw cw) (.int .i64 next') (.slice Ae ne ce) (.int .i64 idle') (.bool dead')
  have HD4 := Lib.hid hD4
  have HU2 := Lib.hid hu2
  obtain ⟨z0, z1, z2, z3, z4, z5, z6, z7⟩ := hD3.st.cel 1 (by decide)
  have k0 : wt.cell? ⟨W.heap.size, 8, none⟩ = some (.int .u64 7) := z0
  have k1 : wt.cell? ⟨W.heap.size, 9, none⟩ = some (.int .i64 (E 1).base) := z1
  have k2 : wt.cell? ⟨W.heap.size, 10, none⟩ = some (E 1).vo := z2
  have k3 : wt.cell? ⟨W.heap.size, 11, none⟩ = some (E 1).vw := z3
  have k4 : wt.cell? ⟨W.heap.size, 12, none⟩ = some (.int .i64 (E 1).next) := z4
  have k5 : wt.cell? ⟨W.heap.size, 13, none⟩ = some (E 1).ve := z5
  have k6 : wt.cell? ⟨W.heap.size, 14, none⟩ = some (.int .i64 (E 1).idle) := z6
  have k7 : wt.cell? ⟨W.heap.size, 15, none⟩ = some (.bool (E 1).dead) := z7
  clear z0 z1 z2 z3 z4 z5 z6 z7
  have f8 : wt.frozen? ⟨W.heap.size, 8, none⟩ = false := hD3.st.fz _ _ (by omega) (by omega)
  have f9 : wt.frozen? ⟨W.heap.size, 9, none⟩ = false := hD3.st.fz _ _ (by omega) (by omega)
  have f10 : wt.frozen? ⟨W.heap.size, 10, none⟩ = false := hD3.st.fz _ _ (by omega) (by omega)
  have f11 : wt.frozen? ⟨W.heap.size, 11, none⟩ = false := hD3.st.fz _ _ (by omega) (by omega)
  have f12 : wt.frozen? ⟨W.heap.size, 12, none⟩ = false := hD3.st.fz _ _ (by omega) (by omega)
  have f13 : wt.frozen? ⟨W.heap.size, 13, none⟩ = false := hD3.st.fz _ _ (by omega) (by omega)
  have f14 : wt.frozen? ⟨W.heap.size, 14, none⟩ = false := hD3.st.fz _ _ (by omega) (by omega)
  have f15 : wt.frozen? ⟨W.heap.size, 15, none⟩ = false := hD3.st.fz _ _ (by omega) (by omega)
  have r1 : wt.cell? ⟨W.heap.size + 1 + 1 + 1, 1, none⟩ = some (v 5) := hD3.st.row 2 1 (by decide) (by decide)
  have g1 : wt.frozen? ⟨W.heap.size + 1 + 1 + 1, 1, none⟩ = false := hD3.st.fz _ _ (by omega) (by omega)
  have hN1 : W.heap.size + 1 + 1 + 1 < wt.heap.size := by have := hD3.st.siz; omega
  have hsky := (hD3.st.sky 1 (by decide)).1
  have HBND : Hid ((l 5).length + out.length ≤ 1000000000) := by unfold Hid; have : (l 5).length ≤ 4 * j := hsky; omega
  have HSK := Lib.hid hsky
  have HFR := Lib.hid hfr
  have HLEN := Lib.hid hout
  clear hwu hD3 hD4 hu2 hu hE' hel hle hnx hno hnw hne hnu hch hsky hfr hout HD HD2 HBC e0 e1 e2
  go_wp2_with (at_builtin; rw [HWU.out]; refine wpList_append_sAt rfl _ _ 33 rfl Try.underlying33 (W.heap.size + 4) (v 5) (l 5) rfl (HD4.out.st.led.own 5 (by decide)) (.slice Au nu cu) (out) rfl HU2.out HBND.out HD4.out.st.led.base ?_)
  intro v' w2 h1 h2 h3
  have hown : ∀ b, (v 5).ownBlock = some b → W.heap.size + 4 ≤ b := fun b e => ((HD4.out.st.led.own 5 (by decide)).lt b e).1
  have hN4 := HD4.out.st.siz
  have hblk : w2.heap[W.heap.size + 1 + 1 + 1]? = wu.heap[W.heap.size + 1 + 1 + 1]? := h2.block _ (by omega) (fun e => by have := hown _ e.symm; omega)
  have r2 : w2.cell? ⟨W.heap.size + 1 + 1 + 1, 1, none⟩ = some (v 5) := (World.cell?_of_block hblk).trans (HD4.out.st.row 2 1 (by decide) (by decide))
  have fz2 : w2.frozen? ⟨W.heap.size + 1 + 1 + 1, 1, none⟩ = false := (World.frozen?_of_block hblk).trans (HD4.out.st.fz _ _ (by omega) (by omega))
  have hBz : Below W.heap.size W w2 := HBU.out.grown h2 HBU.out.size (fun b e => by have := hown b e; omega)
  have h1 : w2.ownsRow (W.heap.size + 4) 9 1 v' (l 5 ++ out).length ((l 5 ++ out).map .string) := by simpa using h1
  obtain ⟨Az, cz, hvz, lf5, rt5⟩ := (StrsN.of_owns h1).1.len
  obtain ⟨nz, hnz⟩ : ∃ q, q = (l 5 ++ out).length := ⟨_, rfl⟩
  have hTX : TX W.heap.size (j + 1) (w2.setCell ⟨W.heap.size + 1 + 1 + 1, 1, none⟩ v') := ⟨_, _, _, _, _, HD4.out.skyA 1 (by decide) v' (l 5 ++ out) out rfl (by have : (l (4 + 1)).length ≤ 4 * j := HSK.out; have := HLEN.out; omega) HFR.out h1 h2 h3⟩
  have HBZ := Lib.hid (hBz.setCell (p := ⟨W.heap.size + 1 + 1 + 1, 1, none⟩) (by dsimp only; omega) v')
  rw [← hnz] at hvz
  have HTX := Lib.hid hTX
  subst hvz
  have hN2 : W.heap.size + 1 + 1 + 1 < w2.heap.size := by have := h2.size; omega
  clear hTX hBz hown hblk h1 h2 h3 HD4 HBU HWU HU2 hnz hN4 HBND HSK HFR HLEN r1 g1 hN1 k0 k1 k2 k3 k4 k5 k6 k7 f8 f9 f10 f11 f12 f13 f14 f15
  clear hm hm' hq hq' hN0 lf5 rt5
  go_wp2_with fail
  exact HNX.out _ _ _ _ _ _ _ _ _ _ _ _ _ _ _ _ _ _ _ _ _ _ _ _ _ _ _ _ _ _ _ _ _ _ _ _ _ _ _ _ _ _ _ _ _ _ _ _ _ _ _ _ _ _ _ _ _ _ _ _ _ _ _ _ _ _ _ _ _ _ _ _ _ _ _ _ _ _ _ _ _ _ _ _ _ _ _ _ _ _ _ _ _ _ _ _ _ _ _ _ _ _ _ _ _ _ _ _ _ _ _ (HTX.out) (HBZ.out)
set_option maxRecDepth 100000 in
set_option maxHeartbeats 8000000 in
theorem todo_take1 (W : World) (A3 : Option Addr) (n3 c3 : Nat) (x3 : List ByteArray) (n2 c2 gd od : Nat) (q0 q1 q2 q4 q5 q6 q7 q13 q14 q15 q16 q17 q18 q19 q20 q21 q22 q23 q29 q30 q31 q32 q33 q34 q35 q36 q37 q38 q39 q40 q41 q42 q43 q44 q45 q46 q47 q48 q49 q50 q51 q52 q53 q54 q55 q56 q57 q58 q59 q60 q61 q62 q63 q64 q65 q66 q67 q68 q69 q70 q71 q72 q73 q74 q75 q76 q77 q78 q79 q80 q81 q82 q83 q84 q85 q86 q87 q88 q89 q90 q91 q92 q93 q94 q95 q96 q97 q98 q99 q100 q101 q102 q103 q104 q105 q106 q107 q108 q109 q110 q111 q112 q113 q114 q115 q116 q117 q118 q119 q120 q228 q229 q230 q231 q232 q233 q234 q235 q236 q237 q238 q239 q240 q241 q242 q243 q244 q245 q246 q247 q248 q249 q250 q251 q252 q253 q254 q255 q256 : Value) (u8 u24 u25 u26 u27 u28 u124 u125 u126 u127 u128 u129 u130 u131 u132 u133 u134 u135 u136 u137 u138 u139 u140 u141 u142 u143 u144 u145 u146 u147 u148 u149 u150 u151 u152 u153 u154 u155 u156 u157 u158 u159 u160 u161 u162 u163 u164 u165 u166 u167 u168 u169 u170 u171 u172 u173 u174 u175 u176 u177 u178 u179 u180 u181 u182 u183 u184 u185 u186 u187 u188 u189 u190 u191 u192 u193 u194 u195 u196 u197 u198 u199 u200 u201 u202 u203 u204 u205 u206 u207 u208 u209 u210 u211 u212 u213 u214 u215 u216 u217 u218 u219 u220 u221 u222 u223 u224 u225 u226 u227 : Value) (wr : World) (j ka kb kc : Nat) (S : Nat → List ByteArray) (v : Nat → Value) (l : Nat → List ByteArray) (E : Nat → EndV) (K : Nat → Nat) (Q : Exit → Act → World → Prop) (HL3 : Hid (StrsN W (.slice A3 n3 c3) x3)) (HN3 : Hid (x3.length = n3)) (HJA : Hid (∀ y ∈ x3, JK y)) (g2 : n2 ≤ 120) (g3 : n3 ≤ 20) (hlt : j < n2) (h256 : ka < 256 ∧ kb < 256 ∧ kc < 256) (e0 : wr.cell? ⟨gd, od + j * 3, none⟩ = some (.int .u8 ka)) (e1 : wr.cell? ⟨gd, od + j * 3 + 1, none⟩ = some (.int .u8 kb)) (e2 : wr.cell? ⟨gd, od + j * 3 + 2, none⟩ = some (.int .u8 kc)) (HB : Hid (Below W.heap.size W wr)) (hD : TdS W.heap.size j S v l E K K wr) (hm : ka % 2 = 1) (hq : kb % 3 = 1) (hpos0 : 0 < (l 4).length) (HNX : Hid (∀ (v8 v24 v25 v26 v27 v28 v124 v125 v126 v127 v128 v129 v130 v131 v132 v133 v134 v135 v136 v137 v138 v139 v140 v141 v142 v143 v144 v145 v146 v147 v148 v149 v150 v151 v152 v153 v154 v155 v156 v157 v158 v159 v160 v161 v162 v163 v164 v165 v166 v167 v168 v169 v170 v171 v172 v173 v174 v175 v176 v177 v178 v179 v180 v181 v182 v183 v184 v185 v186 v187 v188 v189 v190 v191 v192 v193 v194 v195 v196 v197 v198 v199 v200 v201 v202 v203 v204 v205 v206 v207 v208 v209 v210 v211 v212 v213 v214 v215 v216 v217 v218 v219 v220 v221 v222 v223 v224 v225 v226 v227 : Value) (w' : World), TX W.heap.size (j + 1) w' → Below W.heap.size W w' → Q .normal ⟨#[q0, q1, q2, .slice A3 n3 c3, q4, q5, q6, q7, v8, .pointer (some ⟨W.heap.size, 0, none⟩), .pointer (some ⟨W.heap.size + 1, 0, none⟩), .pointer (some ⟨W.heap.size + 1 + 1, 0, none⟩), .pointer (some ⟨W.heap.size + 1 + 1 + 1, 0, none⟩), q13, q14, q15, q16, q17, q18, q19, q20, q21, q22, q23, v24, v25, v26, v27, v28, q29, q30, q31, q32, q33, q34, q35, q36, q37, q38, q39, q40, q41, q42, q43, q44, q45, q46, q47, q48, q49, q50, q51, q52, q53, q54, q55, q56, q57, q58, q59, q60, q61, q62, q63, q64, q65, q66, q67, q68, q69, q70, q71, q72, q73, q74, q75, q76, q77, q78, q79, q80, q81, q82, q83, q84, q85, q86, q87, q88, q89, q90, q91, q92, q93, q94, q95, q96, q97, q98, q99, q100, q101, q102, q103, q104, q105, q106, q107, q108, q109, q110, q111, q112, q113, q114, q115, q116, q117, q118, q119, q120, .slice (some ⟨gd, od, none⟩) n2 c2, .int .i64 n2, .int .i64 ((j : Int) + 1), v124, v125, v126, v127, v128, v129, v130, v131, v132, v133, v134, v135, v136, v137, v138, v139, v140, v141, v142, v143, v144, v145, v146, v147, v148, v149, v150, v151, v152, v153, v154, v155, v156, v157, v158, v159, v160, v161, v162, v163, v164, v165, v166, v167, v168, v169, v170, v171, v172, v173, v174, v175, v176, v177, v178, v179, v180, v181, v182, v183, v184, v185, v186, v187, v188, v189, v190, v191, v192, v193, v194, v195, v196, v197, v198, v199, v200, v201, v202, v203, v204, v205, v206, v207, v208, v209, v210, v211, v212, v213, v214, v215, v216, v217, v218, v219, v220, v221, v222, v223, v224, v225, v226, v227, q228, q229, q230, q231, q232, q233, q234, q235, q236, q237, q238, q239, q240, q241, q242, q243, q244, q245, q246, q247, q248, q249, q250, q251, q252, q253, q254, q255, q256], []⟩ w')) :
    Code.wp Try.prog todoBody Q ⟨#[q0, q1, q2, .slice A3 n3 c3, q4, q5, q6, q7, u8, .pointer (some ⟨W.heap.size, 0, none⟩), .pointer (some ⟨W.heap.size + 1, 0, none⟩), .pointer (some ⟨W.heap.size + 1 + 1, 0, none⟩), .pointer (some ⟨W.heap.size + 1 + 1 + 1, 0, none⟩), q13, q14, q15, q16, q17, q18, q19, q20, q21, q22, q23, u24, u25, u26, u27, u28, q29, q30, q31, q32, q33, q34, q35, q36, q37, q38, q39, q40, q41, q42, q43, q44, q45, q46, q47, q48, q49, q50, q51, q52, q53, q54, q55, q56, q57, q58, q59, q60, q61, q62, q63, q64, q65, q66, q67, q68, q69, q70, q71, q72, q73, q74, q75, q76, q77, q78, q79, q80, q81, q82, q83, q84, q85, q86, q87, q88, q89, q90, q91, q92, q93, q94, q95, q96, q97, q98, q99, q100, q101, q102, q103, q104, q105, q106, q107, q108, q109, q110, q111, q112, q113, q114, q115, q116, q117, q118, q119, q120, .slice (some ⟨gd, od, none⟩) n2 c2, .int .i64 n2, .int .i64 j, u124, u125, u126, u127, u128, u129, u130, u131, u132, u133, u134, u135, u136, u137, u138, u139, u140, u141, u142, u143, u144, u145, u146, u147, u148, u149, u150, u151, u152, u153, u154, u155, u156, u157, u158, u159, u160, u161, u162, u163, u164, u165, u166, u167, u168, u169, u170, u171, u172, u173, u174, u175, u176, u177, u178, u179, u180, u181, u182, u183, u184, u185, u186, u187, u188, u189, u190, u191, u192, u193, u194, u195, u196, u197, u198, u199, u200, u201, u202, u203, u204, u205, u206, u207, u208, u209, u210, u211, u212, u213, u214, u215, u216, u217, u218, u219, u220, u221, u222, u223, u224, u225, u226, u227, q228, q229, q230, q231, q232, q233, q234, q235, q236, q237, q238, q239, q240, q241, q242, q243, q244, q245, q246, q247, q248, q249, q250, q251, q252, q253, q254, q255, q256], []⟩ wr := by
  have hlt' : (j : Int) < (n2 : Int) := by omega
  obtain ⟨h256a, h256b, h256c⟩ := h256
  have hbC : Below wr.heap.size wr (wr.alloc (.cells #[.int .u8 ka, .int .u8 kb, .int .u8 kc] 45)) := (Below.refl _ _).alloc (Nat.le_refl _) _
  have HD := Lib.hid hD
  have HD2 := Lib.hid (hD.below hbC)
  have HBC := Lib.hid (HB.out.trans (hbC.mono HB.out.size))
  clear hD hbC HB
  have hm' : (ka : Int) % 2 = 1 := by omega
  have hq' : (kb : Int) % 3 = 1 := by omega
  have hN0 : W.heap.size < wr.heap.size := by have := HD.out.st.siz; omega
  obtain ⟨z0, z1, z2, z3, z4, z5, z6, z7⟩ := HD.out.st.cel 1 (by decide)
  have k0 : wr.cell? ⟨W.heap.size, 8, none⟩ = some (.int .u64 7) := z0
  have k1 : wr.cell? ⟨W.heap.size, 9, none⟩ = some (.int .i64 (E 1).base) := z1
  have k2 : wr.cell? ⟨W.heap.size, 10, none⟩ = some (E 1).vo := z2
  have k3 : wr.cell? ⟨W.heap.size, 11, none⟩ = some (E 1).vw := z3
  have k4 : wr.cell? ⟨W.heap.size, 12, none⟩ = some (.int .i64 (E 1).next) := z4
  have k5 : wr.cell? ⟨W.heap.size, 13, none⟩ = some (E 1).ve := z5
  have k6 : wr.cell? ⟨W.heap.size, 14, none⟩ = some (.int .i64 (E 1).idle) := z6
  have k7 : wr.cell? ⟨W.heap.size, 15, none⟩ = some (.bool (E 1).dead) := z7
  clear z0 z1 z2 z3 z4 z5 z6 z7
  conv => arg 2; whnf
  have hN3 : W.heap.size + 1 + 1 + 1 < wr.heap.size := by have := HD.out.st.siz; omega
  obtain ⟨As, cs, hvs, lf6, rt6⟩ := (StrsN.of_owns (HD.out.st.led.own 4 (by decide))).1.len
  obtain ⟨ns, hns⟩ : ∃ q, q = (l 4).length := ⟨_, rfl⟩
  rw [← hns] at hvs
  have s1 : wr.cell? ⟨W.heap.size + 1 + 1 + 1, 0, none⟩ = some (.slice As ns cs) := by rw [← hvs]; exact HD.out.st.row 2 0 (by decide) (by decide)
  have hpos : 0 < ns := by rw [hns]; exact hpos0
  have HVS := Lib.hid hvs
  have HNS := Lib.hid hns
  have hnsb : ns ≤ 480 := by have := (HD.out.st.sky 0 (by decide)).1; have : (l 4).length ≤ 4 * j := this; omega
  clear lf6 rt6 hvs hns
  have dpos : decide ((0 : Int) < (ns : Int)) = true := by simp; omega
  obtain ⟨m, hmd⟩ : ∃ q, q = kc % ns := ⟨_, rfl⟩
  have hml : m < ns := by rw [hmd]; exact Nat.mod_lt _ (by omega)
  have hmm : (kc : Int) % (ns : Int) = (m : Int) := by rw [hmd]; first | exact (Int.natCast_emod _ _).symm | rfl
  have hmt : (kc : Int).tmod (ns : Int) = (m : Int) := by rw [Int.tmod_eq_emod_of_nonneg (show (0 : Int) ≤ (kc : Int) by omega)]; exact hmm
  have HMD := Lib.hid hmd
  clear hmd
  have hrow : StrsB wr (.slice As ns cs) (l 4) := by rw [← HVS.out]; exact (StrsN.of_owns (HD.out.st.led.own 4 (by decide))).1
  have hvs0 := HVS.out
  obtain ⟨bs, os, rfl, hbs, hcell⟩ := hrow.cells (by have := HNS.out; omega)
  have HBL : Hid (W.heap.size + 4 ≤ bs) := ((HD.out.st.led.own 4 (by decide)).lt bs (by rw [hvs0]; rfl)).1
  have hmx : m < (l 4).length := by rw [← HNS.out]; exact hml
  have ce := hcell m hmx
  have HFY : Hid (FrG (S 0) (l 4)[m]) := (HD.out.st.sky 0 (by decide)).2 _ (List.getElem_mem hmx)
  generalize (l 4)[m] = y at *
  clear hcell hmx hrow HVS hvs0
  go_wp2_with fail
  have HDd := Lib.hid (HD2.out.below (Below.refl _ _).drew)
  have HBd := Lib.hid (HBC.out.drew)
  have hgt : wr.heap.size < (wr.alloc (.cells #[.int .u8 ka, .int .u8 kb, .int .u8 kc] 45)).heap.size := by rw [World.size_alloc]; omega
  have HS0 : Hid ((wr.alloc (.cells #[.int .u8 ka, .int .u8 kb, .int .u8 kc] 45)).drew.cell? ⟨W.heap.size + 1 + 1 + 1, 0, none⟩ = some (.slice (some ⟨bs, os, none⟩) ns cs) ∧ (wr.alloc (.cells #[.int .u8 ka, .int .u8 kb, .int .u8 kc] 45)).drew.cell? ⟨wr.heap.size, 2, none⟩ = some (.int .u8 kc) ∧ (wr.alloc (.cells #[.int .u8 ka, .int .u8 kb, .int .u8 kc] 45)).drew.cell? ⟨bs, os + m, none⟩ = some (.string y)) := by
    have hb : Below wr.heap.size wr (wr.alloc (.cells #[.int .u8 ka, .int .u8 kb, .int .u8 kc] 45)).drew := ((Below.refl _ _).alloc (Nat.le_refl _) _).drew
    exact ⟨(hb.cell (by have := HD.out.st.siz; dsimp only; omega)).trans s1, cells_at (World.alloc_heap_new wr (.cells #[.int .u8 ka, .int .u8 kb, .int .u8 kc] 45)) 2, (hb.cell (by dsimp only; exact hbs)).trans ce⟩
  refine wp_region_noPanic ?_
  refine wp_region_held_drew (S := fun w' => w'.cell? ⟨W.heap.size + 1 + 1 + 1, 0, none⟩ = some (.slice (some ⟨bs, os, none⟩) ns cs) ∧ w'.cell? ⟨wr.heap.size, 2, none⟩ = some (.int .u8 kc) ∧ w'.cell? ⟨bs, os + m, none⟩ = some (.string y)) (by kernel_rfl) HS0.out (fun hHeld => ?_)
  have HBS := Lib.hid hbs
  have HSZ : Hid (wr.heap.size < (wr.alloc (.cells #[.int .u8 ka, .int .u8 kb, .int .u8 kc] 45)).drew.heap.size ∧ W.heap.size + 4 ≤ wr.heap.size) := ⟨hgt, HD.out.st.siz⟩
  clear e0 e1 e2 s1 ce hgt hbs k0 k1 k2 k3 k4 k5 k6 k7 HD2 HBC HL3
  generalize (wr.alloc (.cells #[.int .u8 ka, .int .u8 kb, .int .u8 kc] 45)).drew = wd at *
  refine wpAnyH_take (i := 0) (v := .int .i64 1) rfl (by kernel_rfl) (by kernel_rfl) (by kernel_rfl) (fun _ _ _ h => h) (Or.inl ⟨by kernel_rfl, ?_⟩) hHeld ?_
  · intro wz hSw
    go_simp
  refine wpAnyH_take (i := 1) (v := .int .i64 1) rfl (by kernel_rfl) (by kernel_rfl) (by kernel_rfl) (fun _ _ _ h => h) (Or.inl ⟨by kernel_rfl, ?_⟩) hHeld ?_
  · intro wz hSw
    go_simp
  refine wpAnyH_take (i := 2) (v := .pointer (some ⟨W.heap.size, 8, none⟩)) rfl (by kernel_rfl) (by kernel_rfl) (by kernel_rfl) (fun _ _ _ h => h) (Or.inl ⟨by kernel_rfl, ?_⟩) hHeld ?_
  · intro wz hSw
    go_simp
  refine wpAnyH_take (i := 4) (v := .int .i64 1) rfl (by kernel_rfl) (by kernel_rfl) (by kernel_rfl) (fun _ _ _ h => h) (Or.inl ⟨by kernel_rfl, ?_⟩) hHeld ?_
  · intro wz hSw
    go_simp
  refine wpAnyH_take (i := 5) (v := .int .i64 0) rfl (by kernel_rfl) (by kernel_rfl) (by kernel_rfl) (fun _ _ _ h => h) (Or.inl ⟨by kernel_rfl, ?_⟩) hHeld ?_
  · intro wz hSw
    go_simp
    first | done | ((try rw [Int.tdiv_eq_ediv_of_nonneg (by omega)]); (try rw [Int.tmod_eq_emod_of_nonneg (by omega)]); (try rw [IntKind.wrap_i64]); (try omega))
  try simp only [Act.put, List.getElem_toArray, List.getElem_cons_succ, List.getElem_cons_zero, List.setIfInBounds_toArray, List.set_cons_zero, List.set_cons_succ]
  refine wpAnyH_take (i := 6) (v := .pointer (some ⟨W.heap.size + 1 + 1 + 1, 0, none⟩)) rfl (by kernel_rfl) (by kernel_rfl) (by kernel_rfl) (fun _ _ _ h => h) (Or.inl ⟨by kernel_rfl, ?_⟩) hHeld ?_
  · intro wz hSw
    go_simp
  refine wpAnyH_take (i := 7) (v := .slice (some ⟨bs, os, none⟩) ns cs) rfl (by kernel_rfl) (by kernel_rfl) (by kernel_rfl) (fun _ _ _ h => h) (Or.inl ⟨by kernel_rfl, ?_⟩) hHeld ?_
  · intro wz hSw
    have hh := hSw.1
    go_simp
  refine wpAnyH_take (i := 8) (v := .pointer (some ⟨wr.heap.size, 2, none⟩)) rfl (by kernel_rfl) (by kernel_rfl) (by kernel_rfl) (fun _ _ _ h => h) (Or.inl ⟨by kernel_rfl, ?_⟩) hHeld ?_
  · intro wz hSw
    go_simp
  refine wpAnyH_take (i := 9) (v := .int .u8 kc) rfl (by kernel_rfl) (by kernel_rfl) (by kernel_rfl) (fun _ _ _ h => h) (Or.inl ⟨by kernel_rfl, ?_⟩) hHeld ?_
  · intro wz hSw
    have hh := hSw.2.1
    go_simp
  refine wpAnyH_take (i := 10) (v := .int .i64 kc) rfl (by kernel_rfl) (by kernel_rfl) (by kernel_rfl) (fun _ _ _ h => h) (Or.inl ⟨by kernel_rfl, ?_⟩) hHeld ?_
  · intro wz hSw
    go_simp
    first | done | ((try rw [Int.tdiv_eq_ediv_of_nonneg (by omega)]); (try rw [Int.tmod_eq_emod_of_nonneg (by omega)]); (try rw [IntKind.wrap_i64]); (try omega))
  try simp only [Act.put, List.getElem_toArray, List.getElem_cons_succ, List.getElem_cons_zero, List.setIfInBounds_toArray, List.set_cons_zero, List.set_cons_succ]
  refine wpAnyH_take (i := 11) (v := .int .i64 1) rfl (by kernel_rfl) (by kernel_rfl) (by kernel_rfl) (fun _ _ _ h => h) (Or.inl ⟨by kernel_rfl, ?_⟩) hHeld ?_
  · intro wz hSw
    go_simp
  refine wpAnyH_take (i := 12) (v := .int .i64 0) rfl (by kernel_rfl) (by kernel_rfl) (by kernel_rfl) (fun _ _ _ h => h) (Or.inl ⟨by kernel_rfl, ?_⟩) hHeld ?_
  · intro wz hSw
    go_simp
    first | done | ((try rw [Int.tdiv_eq_ediv_of_nonneg (by omega)]); (try rw [Int.tmod_eq_emod_of_nonneg (by omega)]); (try rw [IntKind.wrap_i64]); (try omega))
  refine wpAnyH_take (i := 13) (v := .pointer (some ⟨W.heap.size + 1 + 1 + 1, 0, none⟩)) rfl (by kernel_rfl) (by kernel_rfl) (by kernel_rfl) (fun _ _ _ h => h) (Or.inl ⟨by kernel_rfl, ?_⟩) hHeld ?_
  · intro wz hSw
    go_simp
  refine wpAnyH_take (i := 14) (v := .slice (some ⟨bs, os, none⟩) ns cs) rfl (by kernel_rfl) (by kernel_rfl) (by kernel_rfl) (fun _ _ _ h => h) (Or.inl ⟨by kernel_rfl, ?_⟩) hHeld ?_
  · intro wz hSw
    have hh := hSw.1
    go_simp
  refine wpAnyH_take (i := 15) (v := .int .i64 ns) rfl (by kernel_rfl) (by kernel_rfl) (by kernel_rfl) (fun _ _ _ h => h) (Or.inl ⟨by kernel_rfl, ?_⟩) hHeld ?_
  · intro wz hSw
    go_simp
  try simp only [Act.put, List.getElem_toArray, List.getElem_cons_succ, List.getElem_cons_zero, List.setIfInBounds_toArray, List.set_cons_zero, List.set_cons_succ]
  refine wpAnyH_take (i := 16) (v := .int .i64 m) rfl (by kernel_rfl) (by kernel_rfl) (by kernel_rfl) (fun _ _ _ h => h) (Or.inl ⟨by kernel_rfl, ?_⟩) hHeld ?_
  · intro wz hSw
    go_simp
    first | done | ((try rw [Int.tdiv_eq_ediv_of_nonneg (by omega)]); (try rw [Int.tmod_eq_emod_of_nonneg (by omega)]); (try rw [IntKind.wrap_i64]); (try omega))
  refine wpAnyH_take (i := 17) (v := .pointer (some ⟨bs, os + m, none⟩)) rfl (by kernel_rfl) (by kernel_rfl) (by kernel_rfl) (fun _ _ _ h => h) (Or.inl ⟨by kernel_rfl, ?_⟩) hHeld ?_
  · intro wz hSw
    go_simp
    first | done | ((try rw [Int.tdiv_eq_ediv_of_nonneg (by omega)]); (try rw [Int.tmod_eq_emod_of_nonneg (by omega)]); (try rw [IntKind.wrap_i64]); (try omega))
  refine wpAnyH_take (i := 18) (v := .string y) rfl (by kernel_rfl) (by kernel_rfl) (by kernel_rfl) (fun _ _ _ h => h) (Or.inl ⟨by kernel_rfl, ?_⟩) hHeld ?_
  · intro wz hSw
    have hh := hSw.2.2
    go_simp
  refine wpAnyH_ready (rs := [3]) (by kernel_rfl) (by simp) ?_
  refine (AllReadyH.cons rfl (fun Kc hK => ?_) AllReadyH.nil)
  obtain ⟨z0, z1, z2, z3, z4, z5, z6, z7⟩ := HDd.out.st.cel 1 (by decide)
  have k0 : wd.cell? ⟨W.heap.size, 8, none⟩ = some (.int .u64 7) := z0
  have k1 : wd.cell? ⟨W.heap.size, 9, none⟩ = some (.int .i64 (E 1).base) := z1
  have k2 : wd.cell? ⟨W.heap.size, 10, none⟩ = some (E 1).vo := z2
  have k3 : wd.cell? ⟨W.heap.size, 11, none⟩ = some (E 1).vw := z3
  have k4 : wd.cell? ⟨W.heap.size, 12, none⟩ = some (.int .i64 (E 1).next) := z4
  have k5 : wd.cell? ⟨W.heap.size, 13, none⟩ = some (E 1).ve := z5
  have k6 : wd.cell? ⟨W.heap.size, 14, none⟩ = some (.int .i64 (E 1).idle) := z6
  have k7 : wd.cell? ⟨W.heap.size, 15, none⟩ = some (.bool (E 1).dead) := z7
  clear z0 z1 z2 z3 z4 z5 z6 z7
  go_simp
  refine hK.out _ _ HS0.out (fun hHeld => ?_)
  clear hK Kc
  try simp only [Act.put, List.getElem_toArray, List.getElem_cons_succ, List.getElem_cons_zero, List.setIfInBounds_toArray, List.set_cons_zero, List.set_cons_succ]
  refine wpAnyH_ready (rs := [19]) (by kernel_rfl) (by simp) ?_
  refine (AllReadyH.cons rfl (fun Kc hK => ?_) AllReadyH.nil)
  go_simp
  go_at_call 14
  refine (take_end HDd.out.st.led (HDd.out.st.ends 1 (by decide)) (by have := (HDd.out.len 1 (by decide)).1; omega) (by have := (HDd.out.len 0 (by decide)).1; exact Nat.le_trans this (by decide)) (by have := HDd.out.st.ear 1 (by decide); omega) y HFY.out).mono ?_
  rintro er wt ⟨⟨base', next', idle', dead', vo', vw', ve', lo', lw', le'⟩, u, q, p, rfl, hE', hq1, hq2, hqp, hu, hle, hb⟩
  have hD3 := HDd.out.below hb
  have HB3 := Lib.hid (HBd.out.trans (hb.mono HBd.out.size))
  have HS3 : Hid (wt.cell? ⟨W.heap.size + 1 + 1 + 1, 0, none⟩ = some (.slice (some ⟨bs, os, none⟩) ns cs) ∧ wt.cell? ⟨wr.heap.size, 2, none⟩ = some (.int .u8 kc) ∧ wt.cell? ⟨bs, os + m, none⟩ = some (.string y)) := by
    have h1 := HSZ.out
    have h2 := HBS.out
    exact ⟨(hb.cell (by dsimp only; omega)).trans HS0.out.1, (hb.cell (by dsimp only; omega)).trans HS0.out.2.1, (hb.cell (by dsimp only; omega)).trans HS0.out.2.2⟩
  clear k0 k1 k2 k3 k4 k5 k6 k7 hb
  dsimp only at hle hq2
  have hq0 : K 1 = q := by have h := (hD3.nxt 1 (by decide)).1; rw [hq1] at h; omega
  subst hq0
  have hel : le'.length ≤ j + 1 := by have := hD3.st.ear 1 (by decide); omega
  have hD4 := (hD3.more (show j ≤ j + 1 by omega)).put 1 (by decide) _ hE' hel (K 1 + p) hq2 hqp
  dsimp only [EndV.v, End8]
  obtain ⟨Ao, co, hvo, lf1, rt1⟩ := hE'.o.1.len
  obtain ⟨Aw, cw, hvw, lf2, rt2⟩ := hE'.w.1.len
  obtain ⟨Ae, ce, hve, lf3, rt3⟩ := hE'.f.len
  obtain ⟨Au, cu, hvu, lf4, rt4⟩ := hu.1.len
  dsimp only at hvo hvw hve
  obtain ⟨no, hno⟩ : ∃ q, q = lo'.length := ⟨_, rfl⟩
  obtain ⟨nw, hnw⟩ : ∃ q, q = lw'.length := ⟨_, rfl⟩
  obtain ⟨ne, hne⟩ : ∃ q, q = le'.length := ⟨_, rfl⟩
  obtain ⟨nu, hnu⟩ : ∃ q, q = (((S (1 - 1)).drop (K 1)).take p).length := ⟨_, rfl⟩
  rw [← hno] at hvo
  rw [← hnw] at hvw
  rw [← hne] at hve
  rw [← hnu] at hvu
  subst hvo hvw hve hvu
  clear lf1 lf2 lf3 lf4 rt1 rt2 rt3 rt4
  have hu2 := hD3.setStr 1 (by decide) hu (.int .u64 7) (.int .i64 base') (.slice Ao no co) (.slice Aw nw cw) (.int .i64 next') (.slice Ae ne ce) (.int .i64 idle') (.bool dead')
  have hch : set8C wt W.heap.size (1 * 8) (.int .u64 7) (.int .i64 base') (.slice Ao no co) (.slice Aw nw cw) (.int .i64 next') (.slice Ae ne ce) (.int .i64 idle') (.bool dead') = ((((((((wt.setCell ⟨W.heap.size, 8, none⟩ (.int .u64 7)).setCell ⟨W.heap.size, 9, none⟩ (.int .i64 base')).setCell ⟨W.heap.size, 10, none⟩ (.slice Ao no co)).setCell ⟨W.heap.size, 11, none⟩ (.slice Aw nw cw)).setCell ⟨W.heap.size, 12, none⟩ (.int .i64 next')).setCell ⟨W.heap.size, 13, none⟩ (.slice Ae ne ce)).setCell ⟨W.heap.size, 14, none⟩ (.int .i64 idle')).setCell ⟨W.heap.size, 15, none⟩ (.bool dead')) := by simp only [set8C, Nat.zero_mul, Nat.one_mul, Nat.zero_add, Nat.reduceMul, Nat.reduceAdd]
  rw [hch] at hD4 hu2
  obtain ⟨wu, hwu⟩ : ∃ q, q = ((((((((wt.setCell ⟨W.heap.size, 8, none⟩ (.int .u64 7)).setCell ⟨W.heap.size, 9, none⟩ (.int .i64 base')).setCell ⟨W.heap.size, 10, none⟩ (.slice Ao no co)).setCell ⟨W.heap.size, 11, none⟩ (.slice Aw nw cw)).setCell ⟨W.heap.size, 12, none⟩ (.int .i64 next')).setCell ⟨W.heap.size, 13, none⟩ (.slice Ae ne ce)).setCell ⟨W.heap.size, 14, none⟩ (.int .i64 idle')).setCell ⟨W.heap.size, 15, none⟩ (.bool dead')) := ⟨_, rfl⟩
  rw [← hwu] at hD4 hu2
  have HWU := Lib.hid hwu.symm
  have HBU : Hid (Below W.heap.size W wu) := by
    unfold Hid
    rw [hwu]
    exact below_set8o HB3.out (Nat.le_refl _) 8 (.int .u64 7) (.int .i64 base') (.slice Ao no co) (.slice Aw nw cw) (.int .i64 next') (.slice Ae ne ce) (.int .i64 idle') (.bool dead')
  have HD4 := Lib.hid hD4
  have HU2 := Lib.hid hu2
  obtain ⟨z0, z1, z2, z3, z4, z5, z6, z7⟩ := hD3.st.cel 1 (by decide)
  have k0 : wt.cell? ⟨W.heap.size, 8, none⟩ = some (.int .u64 7) := z0
  have k1 : wt.cell? ⟨W.heap.size, 9, none⟩ = some (.int .i64 (E 1).base) := z1
  have k2 : wt.cell? ⟨W.heap.size, 10, none⟩ = some (E 1).vo := z2
  have k3 : wt.cell? ⟨W.heap.size, 11, none⟩ = some (E 1).vw := z3
  have k4 : wt.cell? ⟨W.heap.size, 12, none⟩ = some (.int .i64 (E 1).next) := z4
  have k5 : wt.cell? ⟨W.heap.size, 13, none⟩ = some (E 1).ve := z5
  have k6 : wt.cell? ⟨W.heap.size, 14, none⟩ = some (.int .i64 (E 1).idle) := z6
  have k7 : wt.cell? ⟨W.heap.size, 15, none⟩ = some (.bool (E 1).dead) := z7
  clear z0 z1 z2 z3 z4 z5 z6 z7
  have f8 : wt.frozen? ⟨W.heap.size, 8, none⟩ = false := hD3.st.fz _ _ (by omega) (by omega)
  have f9 : wt.frozen? ⟨W.heap.size, 9, none⟩ = false := hD3.st.fz _ _ (by omega) (by omega)
  have f10 : wt.frozen? ⟨W.heap.size, 10, none⟩ = false := hD3.st.fz _ _ (by omega) (by omega)
  have f11 : wt.frozen? ⟨W.heap.size, 11, none⟩ = false := hD3.st.fz _ _ (by omega) (by omega)
  have f12 : wt.frozen? ⟨W.heap.size, 12, none⟩ = false := hD3.st.fz _ _ (by omega) (by omega)
  have f13 : wt.frozen? ⟨W.heap.size, 13, none⟩ = false := hD3.st.fz _ _ (by omega) (by omega)
  have f14 : wt.frozen? ⟨W.heap.size, 14, none⟩ = false := hD3.st.fz _ _ (by omega) (by omega)
  have f15 : wt.frozen? ⟨W.heap.size, 15, none⟩ = false := hD3.st.fz _ _ (by omega) (by omega)
  have r1 : wt.cell? ⟨W.heap.size + 1 + 1, 1, none⟩ = some (v 3) := hD3.st.row 1 1 (by decide) (by decide)
  have g1 : wt.frozen? ⟨W.heap.size + 1 + 1, 1, none⟩ = false := hD3.st.fz _ _ (by omega) (by omega)
  have hN1 : W.heap.size + 1 + 1 < wt.heap.size := by have := hD3.st.siz; omega
  have HBND : Hid ((l 3).length + (((S (1 - 1)).drop (K 1)).take p).length ≤ 1000000000) := by
    unfold Hid
    have h1 := (hD3.tld 1 (by decide)).1
    have h2 := (hD3.len 0 (by decide)).1
    have h1 : l 3 = (S (1 - 1)).take (K 1) := h1
    have h2 : (S (1 - 1)).length ≤ 30 := h2
    rw [h1]
    simp only [List.length_take, List.length_drop]
    omega
  have HKP := Lib.hid hqp
  clear hwu hD3 hD4 hu2 hu hE' hel hle hq1 hq2 hqp hno hnw hne hnu hch HDd HBd HD
  go_wp2_with fail
  refine hK.out _ _ HS3.out (fun hHeld => ?_)
  clear hK Kc
  try simp only [Act.put, List.getElem_toArray, List.getElem_cons_succ, List.getElem_cons_zero, List.setIfInBounds_toArray, List.set_cons_zero, List.set_cons_succ]
  refine wpAnyH_take (i := 20) (v := .tuple #[.agg #[.int .u64 7, .int .i64 base', .slice Ao no co, .slice Aw nw cw, .int .i64 next', .slice Ae ne ce, .int .i64 idle', .bool dead'], .slice Au nu cu]) rfl (by kernel_rfl) (by kernel_rfl) (by kernel_rfl) (fun _ _ _ h => h) (Or.inl ⟨by kernel_rfl, ?_⟩) hHeld ?_
  · intro wz hSw
    go_simp
  refine wpAnyH_take (i := 21) (v := .agg #[.int .u64 7, .int .i64 base', .slice Ao no co, .slice Aw nw cw, .int .i64 next', .slice Ae ne ce, .int .i64 idle', .bool dead']) rfl (by kernel_rfl) (by kernel_rfl) (by kernel_rfl) (fun _ _ _ h => h) (Or.inl ⟨by kernel_rfl, ?_⟩) hHeld ?_
  · intro wz hSw
    go_simp
  try simp only [Act.put, List.getElem_toArray, List.getElem_cons_succ, List.getElem_cons_zero, List.setIfInBounds_toArray, List.set_cons_zero, List.set_cons_succ]
  refine wpAnyH_take (i := 22) (v := .slice Au nu cu) rfl (by kernel_rfl) (by kernel_rfl) (by kernel_rfl) (fun _ _ _ h => h) (Or.inl ⟨by kernel_rfl, ?_⟩) hHeld ?_
  · intro wz hSw
    go_simp
  refine wpAnyH_take (i := 23) (v := .pointer (some ⟨W.heap.size, 8, none⟩)) rfl (by kernel_rfl) (by kernel_rfl) (by kernel_rfl) (fun _ _ _ h => h) (Or.inl ⟨by kernel_rfl, ?_⟩) hHeld ?_
  · intro wz hSw
    go_simp
  refine wpAnyH_ready (rs := [24]) (by kernel_rfl) (by simp) ?_
  refine (AllReadyH.cons rfl (fun Kc hK => ?_) AllReadyH.nil)
  go_simp
  rw [HWU.out]
  have HS4 : Hid (wu.cell? ⟨W.heap.size + 1 + 1 + 1, 0, none⟩ = some (.slice (some ⟨bs, os, none⟩) ns cs) ∧ wu.cell? ⟨wr.heap.size, 2, none⟩ = some (.int .u8 kc) ∧ wu.cell? ⟨bs, os + m, none⟩ = some (.string y)) := by
    have h1 := HSZ.out
    have h2 := HBL.out
    unfold Hid
    rw [← HWU.out]
    refine ⟨(cell_set8 (o := 8) (.int .u64 7) (.int .i64 base') (.slice Ao no co) (.slice Aw nw cw) (.int .i64 next') (.slice Ae ne ce) (.int .i64 idle') (.bool dead') (fun k' hk' e => by injection e with e _; omega)).trans HS3.out.1, (cell_set8 (o := 8) (.int .u64 7) (.int .i64 base') (.slice Ao no co) (.slice Aw nw cw) (.int .i64 next') (.slice Ae ne ce) (.int .i64 idle') (.bool dead') (fun k' hk' e => by injection e with e _; omega)).trans HS3.out.2.1, (cell_set8 (o := 8) (.int .u64 7) (.int .i64 base') (.slice Ao no co) (.slice Aw nw cw) (.int .i64 next') (.slice Ae ne ce) (.int .i64 idle') (.bool dead') (fun k' hk' e => by injection e with e _; omega)).trans HS3.out.2.2⟩
  refine hK.out _ _ HS4.out (fun hHeld => ?_)
  clear hK Kc
  try simp only [Act.put, List.getElem_toArray, List.getElem_cons_succ, List.getElem_cons_zero, List.setIfInBounds_toArray, List.set_cons_zero, List.set_cons_succ]
  refine wpAnyH_take (i := 25) (v := .slice Au nu cu) rfl (by kernel_rfl) (by kernel_rfl) (by kernel_rfl) (fun _ _ _ h => h) (Or.inl ⟨by kernel_rfl, ?_⟩) hHeld ?_
  · intro wz hSw
    go_simp
  refine wpAnyH_done (by kernel_rfl) ?_ _
  refine NoPanic.normal ?_
  have r1 : wu.cell? ⟨W.heap.size + 1 + 1, 1, none⟩ = some (v 3) := HD4.out.st.row 1 1 (by decide) (by decide)
  have g1 : wu.frozen? ⟨W.heap.size + 1 + 1, 1, none⟩ = false := HD4.out.st.fz _ _ (by omega) (by omega)
  have hN1 : W.heap.size + 1 + 1 < wu.heap.size := by have := HD4.out.st.siz; omega
  clear k0 k1 k2 k3 k4 k5 k6 k7 f8 f9 f10 f11 f12 f13 f14 f15
  go_wp2_with (at_builtin; refine wpList_append_sAt rfl _ _ 33 rfl Try.underlying33 (W.heap.size + 4) (v 3) (l 3) rfl (HD4.out.st.led.own 3 (by decide)) (.slice Au nu cu) ((((S (1 - 1)).drop (K 1)).take p)) rfl HU2.out HBND.out HD4.out.st.led.base ?_)
  intro v' w2 h1 h2 h3
  have hown : ∀ b, (v 3).ownBlock = some b → W.heap.size + 4 ≤ b := fun b e => ((HD4.out.st.led.own 3 (by decide)).lt b e).1
  have hN4 := HD4.out.st.siz
  have hblk : w2.heap[W.heap.size + 1 + 1]? = wu.heap[W.heap.size + 1 + 1]? := h2.block _ (by omega) (fun e => by have := hown _ e.symm; omega)
  have r2 : w2.cell? ⟨W.heap.size + 1 + 1, 1, none⟩ = some (v 3) := (World.cell?_of_block hblk).trans (HD4.out.st.row 1 1 (by decide) (by decide))
  have fz2 : w2.frozen? ⟨W.heap.size + 1 + 1, 1, none⟩ = false := (World.frozen?_of_block hblk).trans (HD4.out.st.fz _ _ (by omega) (by omega))
  have hBz : Below W.heap.size W w2 := HBU.out.grown h2 HBU.out.size (fun b e => by have := hown b e; omega)
  have h1 : w2.ownsRow (W.heap.size + 4) 9 1 v' (l 3 ++ (((S (1 - 1)).drop (K 1)).take p)).length ((l 3 ++ (((S (1 - 1)).drop (K 1)).take p)).map .string) := by simpa using h1
  obtain ⟨Az, cz, hvz, lf5, rt5⟩ := (StrsN.of_owns h1).1.len
  obtain ⟨nz, hnz⟩ : ∃ q, q = (l 3 ++ (((S (1 - 1)).drop (K 1)).take p)).length := ⟨_, rfl⟩
  have hTX : TX W.heap.size (j + 1) (w2.setCell ⟨W.heap.size + 1 + 1, 1, none⟩ v') := ⟨_, _, _, _, _, HD4.out.told 1 (by decide) p HKP.out v' (l 3 ++ (((S (1 - 1)).drop (K 1)).take p)) rfl h1 h2 h3⟩
  have HBZ := Lib.hid (hBz.setCell (p := ⟨W.heap.size + 1 + 1, 1, none⟩) (by dsimp only; omega) v')
  rw [← hnz] at hvz
  have HTX := Lib.hid hTX
  subst hvz
  have hN2 : W.heap.size + 1 + 1 < w2.heap.size := by have := h2.size; omega
  clear hTX hBz hown hblk h1 h2 h3 HD4 HBU HWU HU2 hnz hN4 HBND HKP r1 g1 hN1
  clear hm hm' hq hq' hN0 lf5 rt5
  go_wp2_with fail
  exact HNX.out _ _ _ _ _ _ _ _ _ _ _ _ _ _ _ _ _ _ _ _ _ _ _ _ _ _ _ _ _ _ _ _ _ _ _ _ _ _ _ _ _ _ _ _ _ _ _ _ _ _ _ _ _ _ _ _ _ _ _ _ _ _ _ _ _ _ _ _ _ _ _ _ _ _ _ _ _ _ _ _ _ _ _ _ _ _ _ _ _ _ _ _ _ _ _ _ _ _ _ _ _ _ _ _ _ _ _ _ _ _ _ (HTX.out) (HBZ.out)
set_option maxRecDepth 100000 in
set_option maxHeartbeats 8000000 in
theorem todo_none1 (W : World) (A3 : Option Addr) (n3 c3 : Nat) (x3 : List ByteArray) (n2 c2 gd od : Nat) (q0 q1 q2 q4 q5 q6 q7 q13 q14 q15 q16 q17 q18 q19 q20 q21 q22 q23 q29 q30 q31 q32 q33 q34 q35 q36 q37 q38 q39 q40 q41 q42 q43 q44 q45 q46 q47 q48 q49 q50 q51 q52 q53 q54 q55 q56 q57 q58 q59 q60 q61 q62 q63 q64 q65 q66 q67 q68 q69 q70 q71 q72 q73 q74 q75 q76 q77 q78 q79 q80 q81 q82 q83 q84 q85 q86 q87 q88 q89 q90 q91 q92 q93 q94 q95 q96 q97 q98 q99 q100 q101 q102 q103 q104 q105 q106 q107 q108 q109 q110 q111 q112 q113 q114 q115 q116 q117 q118 q119 q120 q228 q229 q230 q231 q232 q233 q234 q235 q236 q237 q238 q239 q240 q241 q242 q243 q244 q245 q246 q247 q248 q249 q250 q251 q252 q253 q254 q255 q256 : Value) (u8 u24 u25 u26 u27 u28 u124 u125 u126 u127 u128 u129 u130 u131 u132 u133 u134 u135 u136 u137 u138 u139 u140 u141 u142 u143 u144 u145 u146 u147 u148 u149 u150 u151 u152 u153 u154 u155 u156 u157 u158 u159 u160 u161 u162 u163 u164 u165 u166 u167 u168 u169 u170 u171 u172 u173 u174 u175 u176 u177 u178 u179 u180 u181 u182 u183 u184 u185 u186 u187 u188 u189 u190 u191 u192 u193 u194 u195 u196 u197 u198 u199 u200 u201 u202 u203 u204 u205 u206 u207 u208 u209 u210 u211 u212 u213 u214 u215 u216 u217 u218 u219 u220 u221 u222 u223 u224 u225 u226 u227 : Value) (wr : World) (j ka kb kc : Nat) (S : Nat → List ByteArray) (v : Nat → Value) (l : Nat → List ByteArray) (E : Nat → EndV) (K : Nat → Nat) (Q : Exit → Act → World → Prop) (HL3 : Hid (StrsN W (.slice A3 n3 c3) x3)) (HN3 : Hid (x3.length = n3)) (HJA : Hid (∀ y ∈ x3, JK y)) (g2 : n2 ≤ 120) (g3 : n3 ≤ 20) (hlt : j < n2) (h256 : ka < 256 ∧ kb < 256 ∧ kc < 256) (e0 : wr.cell? ⟨gd, od + j * 3, none⟩ = some (.int .u8 ka)) (e1 : wr.cell? ⟨gd, od + j * 3 + 1, none⟩ = some (.int .u8 kb)) (e2 : wr.cell? ⟨gd, od + j * 3 + 2, none⟩ = some (.int .u8 kc)) (HB : Hid (Below W.heap.size W wr)) (hD : TdS W.heap.size j S v l E K K wr) (hm : ka % 2 = 1) (hq : kb % 3 = 1) (hpos0 : ¬ 0 < (l 4).length) (HNX : Hid (∀ (v8 v24 v25 v26 v27 v28 v124 v125 v126 v127 v128 v129 v130 v131 v132 v133 v134 v135 v136 v137 v138 v139 v140 v141 v142 v143 v144 v145 v146 v147 v148 v149 v150 v151 v152 v153 v154 v155 v156 v157 v158 v159 v160 v161 v162 v163 v164 v165 v166 v167 v168 v169 v170 v171 v172 v173 v174 v175 v176 v177 v178 v179 v180 v181 v182 v183 v184 v185 v186 v187 v188 v189 v190 v191 v192 v193 v194 v195 v196 v197 v198 v199 v200 v201 v202 v203 v204 v205 v206 v207 v208 v209 v210 v211 v212 v213 v214 v215 v216 v217 v218 v219 v220 v221 v222 v223 v224 v225 v226 v227 : Value) (w' : World), TX W.heap.size (j + 1) w' → Below W.heap.size W w' → Q .normal ⟨#[q0, q1, q2, .slice A3 n3 c3, q4, q5, q6, q7, v8, .pointer (some ⟨W.heap.size, 0, none⟩), .pointer (some ⟨W.heap.size + 1, 0, none⟩), .pointer (some ⟨W.heap.size + 1 + 1, 0, none⟩), .pointer (some ⟨W.heap.size + 1 + 1 + 1, 0, none⟩), q13, q14, q15, q16, q17, q18, q19, q20, q21, q22, q23, v24, v25, v26, v27, v28, q29, q30, q31, q32, q33, q34, q35, q36, q37, q38, q39, q40, q41, q42, q43, q44, q45, q46, q47, q48, q49, q50, q51, q52, q53, q54, q55, q56, q57, q58, q59, q60, q61, q62, q63, q64, q65, q66, q67, q68, q69, q70, q71, q72, q73, q74, q75, q76, q77, q78, q79, q80, q81, q82, q83, q84, q85, q86, q87, q88, q89, q90, q91, q92, q93, q94, q95, q96, q97, q98, q99, q100, q101, q102, q103, q104, q105, q106, q107, q108, q109, q110, q111, q112, q113, q114, q115, q116, q117, q118, q119, q120, .slice (some ⟨gd, od, none⟩) n2 c2, .int .i64 n2, .int .i64 ((j : Int) + 1), v124, v125, v126, v127, v128, v129, v130, v131, v132, v133, v134, v135, v136, v137, v138, v139, v140, v141, v142, v143, v144, v145, v146, v147, v148, v149, v150, v151, v152, v153, v154, v155, v156, v157, v158, v159, v160, v161, v162, v163, v164, v165, v166, v167, v168, v169, v170, v171, v172, v173, v174, v175, v176, v177, v178, v179, v180, v181, v182, v183, v184, v185, v186, v187, v188, v189, v190, v191, v192, v193, v194, v195, v196, v197, v198, v199, v200, v201, v202, v203, v204, v205, v206, v207, v208, v209, v210, v211, v212, v213, v214, v215, v216, v217, v218, v219, v220, v221, v222, v223, v224, v225, v226, v227, q228, q229, q230, q231, q232, q233, q234, q235, q236, q237, q238, q239, q240, q241, q242, q243, q244, q245, q246, q247, q248, q249, q250, q251, q252, q253, q254, q255, q256], []⟩ w')) :
    Code.wp Try.prog todoBody Q ⟨#[q0, q1, q2, .slice A3 n3 c3, q4, q5, q6, q7, u8, .pointer (some ⟨W.heap.size, 0, none⟩), .pointer (some ⟨W.heap.size + 1, 0, none⟩), .pointer (some ⟨W.heap.size + 1 + 1, 0, none⟩), .pointer (some ⟨W.heap.size + 1 + 1 + 1, 0, none⟩), q13, q14, q15, q16, q17, q18, q19, q20, q21, q22, q23, u24, u25, u26, u27, u28, q29, q30, q31, q32, q33, q34, q35, q36, q37, q38, q39, q40, q41, q42, q43, q44, q45, q46, q47, q48, q49, q50, q51, q52, q53, q54, q55, q56, q57, q58, q59, q60, q61, q62, q63, q64, q65, q66, q67, q68, q69, q70, q71, q72, q73, q74, q75, q76, q77, q78, q79, q80, q81, q82, q83, q84, q85, q86, q87, q88, q89, q90, q91, q92, q93, q94, q95, q96, q97, q98, q99, q100, q101, q102, q103, q104, q105, q106, q107, q108, q109, q110, q111, q112, q113, q114, q115, q116, q117, q118, q119, q120, .slice (some ⟨gd, od, none⟩) n2 c2, .int .i64 n2, .int .i64 j, u124, u125, u126, u127, u128, u129, u130, u131, u132, u133, u134, u135, u136, u137, u138, u139, u140, u141, u142, u143, u144, u145, u146, u147, u148, u149, u150, u151, u152, u153, u154, u155, u156, u157, u158, u159, u160, u161, u162, u163, u164, u165, u166, u167, u168, u169, u170, u171, u172, u173, u174, u175, u176, u177, u178, u179, u180, u181, u182, u183, u184, u185, u186, u187, u188, u189, u190, u191, u192, u193, u194, u195, u196, u197, u198, u199, u200, u201, u202, u203, u204, u205, u206, u207, u208, u209, u210, u211, u212, u213, u214, u215, u216, u217, u218, u219, u220, u221, u222, u223, u224, u225, u226, u227, q228, q229, q230, q231, q232, q233, q234, q235, q236, q237, q238, q239, q240, q241, q242, q243, q244, q245, q246, q247, q248, q249, q250, q251, q252, q253, q254, q255, q256], []⟩ wr := by
  have hlt' : (j : Int) < (n2 : Int) := by omega
  obtain ⟨h256a, h256b, h256c⟩ := h256
  have hbC : Below wr.heap.size wr (wr.alloc (.cells #[.int .u8 ka, .int .u8 kb, .int .u8 kc] 45)) := (Below.refl _ _).alloc (Nat.le_refl _) _
  have HD := Lib.hid hD
  have HD2 := Lib.hid (hD.below hbC)
  have HBC := Lib.hid (HB.out.trans (hbC.mono HB.out.size))
  clear hD hbC HB
  have hm' : (ka : Int) % 2 = 1 := by omega
  have hq' : (kb : Int) % 3 = 1 := by omega
  have hN0 : W.heap.size < wr.heap.size := by have := HD.out.st.siz; omega
  obtain ⟨z0, z1, z2, z3, z4, z5, z6, z7⟩ := HD.out.st.cel 1 (by decide)
  have k0 : wr.cell? ⟨W.heap.size, 8, none⟩ = some (.int .u64 7) := z0
  have k1 : wr.cell? ⟨W.heap.size, 9, none⟩ = some (.int .i64 (E 1).base) := z1
  have k2 : wr.cell? ⟨W.heap.size, 10, none⟩ = some (E 1).vo := z2
  have k3 : wr.cell? ⟨W.heap.size, 11, none⟩ = some (E 1).vw := z3
  have k4 : wr.cell? ⟨W.heap.size, 12, none⟩ = some (.int .i64 (E 1).next) := z4
  have k5 : wr.cell? ⟨W.heap.size, 13, none⟩ = some (E 1).ve := z5
  have k6 : wr.cell? ⟨W.heap.size, 14, none⟩ = some (.int .i64 (E 1).idle) := z6
  have k7 : wr.cell? ⟨W.heap.size, 15, none⟩ = some (.bool (E 1).dead) := z7
  clear z0 z1 z2 z3 z4 z5 z6 z7
  conv => arg 2; whnf
  have hN3 : W.heap.size + 1 + 1 + 1 < wr.heap.size := by have := HD.out.st.siz; omega
  obtain ⟨As, cs, hvs, lf6, rt6⟩ := (StrsN.of_owns (HD.out.st.led.own 4 (by decide))).1.len
  obtain ⟨ns, hns⟩ : ∃ q, q = (l 4).length := ⟨_, rfl⟩
  rw [← hns] at hvs
  have s1 : wr.cell? ⟨W.heap.size + 1 + 1 + 1, 0, none⟩ = some (.slice As ns cs) := by rw [← hvs]; exact HD.out.st.row 2 0 (by decide) (by decide)
  have hpos : ¬ 0 < ns := by rw [hns]; exact hpos0
  have HVS := Lib.hid hvs
  have HNS := Lib.hid hns
  have hnsb : ns ≤ 480 := by have := (HD.out.st.sky 0 (by decide)).1; have : (l 4).length ≤ 4 * j := this; omega
  clear lf6 rt6 hvs hns
  have dpos : decide ((0 : Int) < (ns : Int)) = false := by simp; omega
  by_cases hj0 : 0 < n3
  case neg =>
    have dj : decide ((0 : Int) < (n3 : Int)) = false := by simp; omega
    go_wp2_with fail
    exact HNX.out _ _ _ _ _ _ _ _ _ _ _ _ _ _ _ _ _ _ _ _ _ _ _ _ _ _ _ _ _ _ _ _ _ _ _ _ _ _ _ _ _ _ _ _ _ _ _ _ _ _ _ _ _ _ _ _ _ _ _ _ _ _ _ _ _ _ _ _ _ _ _ _ _ _ _ _ _ _ _ _ _ _ _ _ _ _ _ _ _ _ _ _ _ _ _ _ _ _ _ _ _ _ _ _ _ _ _ _ _ _ _ (⟨S, v, l, E, K, HD2.out.more (by omega)⟩) (HBC.out)
  have dj : decide ((0 : Int) < (n3 : Int)) = true := by simp; omega
  obtain ⟨m, hmd⟩ : ∃ q, q = kc % n3 := ⟨_, rfl⟩
  have hml : m < n3 := by rw [hmd]; exact Nat.mod_lt _ (by omega)
  have hmm : (kc : Int) % (n3 : Int) = (m : Int) := by rw [hmd]; first | exact (Int.natCast_emod _ _).symm | rfl
  have hmt : (kc : Int).tmod (n3 : Int) = (m : Int) := by rw [Int.tmod_eq_emod_of_nonneg (show (0 : Int) ≤ (kc : Int) by omega)]; exact hmm
  have HMD := Lib.hid hmd
  clear hmd
  obtain ⟨gb, go, rfl, hgb, hcell⟩ := HL3.out.1.cells (by have := HN3.out; omega)
  have hmx : m < x3.length := by have := HN3.out; omega
  have ce := hcell m hmx
  have HY : Hid (JK x3[m]) := HJA.out _ (List.getElem_mem hmx)
  generalize x3[m] = y at *
  clear hcell hmx
  go_wp2_with fail
  obtain ⟨⟨Ao, no, co, sh1⟩, ⟨Aw, nw, cw, sh2⟩, ⟨Ae, ne, cq, sh3⟩⟩ := (HD.out.st.ends 1 (by decide)).shapes
  have HSH : Hid ((E 1).vo = .slice Ao no co ∧ (E 1).vw = .slice Aw nw cw ∧ (E 1).ve = .slice Ae ne cq) := ⟨sh1, sh2, sh3⟩
  have HDd := Lib.hid (HD2.out.below (Below.refl _ _).drew)
  have HBd := Lib.hid (HBC.out.drew)
  have HCD : Hid ((wr.alloc (.cells #[.int .u8 ka, .int .u8 kb, .int .u8 kc] 45)).drew.cell? ⟨wr.heap.size, 2, none⟩ = some (.int .u8 kc)) := cells_at (World.alloc_heap_new wr (.cells #[.int .u8 ka, .int .u8 kb, .int .u8 kc] 45)) 2
  have HCY : Hid ((wr.alloc (.cells #[.int .u8 ka, .int .u8 kb, .int .u8 kc] 45)).drew.cell? ⟨gb, go + m, none⟩ = some (.string y)) := (HBd.out.cell (p := ⟨gb, go + m, none⟩) hgb).trans ce
  have HSZ : Hid (wr.heap.size < (wr.alloc (.cells #[.int .u8 ka, .int .u8 kb, .int .u8 kc] 45)).drew.heap.size ∧ gb < (wr.alloc (.cells #[.int .u8 ka, .int .u8 kb, .int .u8 kc] 45)).drew.heap.size) := ⟨by show wr.heap.size < (wr.alloc (.cells #[.int .u8 ka, .int .u8 kb, .int .u8 kc] 45)).heap.size; rw [World.size_alloc]; omega, Nat.lt_of_lt_of_le hgb HBd.out.size⟩
  refine wp_region_noPanic ?_
  refine wp_region_held_drew (S := fun w' => Below (wr.alloc (.cells #[.int .u8 ka, .int .u8 kb, .int .u8 kc] 45)).drew.heap.size (wr.alloc (.cells #[.int .u8 ka, .int .u8 kb, .int .u8 kc] 45)).drew w') (by kernel_rfl) (Below.refl _ _) (fun hHeld => ?_)
  clear s1 hN3 HVS HNS e0 e1 e2 ce hgb k0 k1 k2 k3 k4 k5 k6 k7 HD HD2 HBC HL3 sh1 sh2 sh3 hN0
  generalize (wr.alloc (.cells #[.int .u8 ka, .int .u8 kb, .int .u8 kc] 45)).drew = wd at *
  refine wpAnyH_take (i := 0) (v := .int .i64 1) rfl (by kernel_rfl) (by kernel_rfl) (by kernel_rfl) (fun _ _ _ h => h) (Or.inl ⟨by kernel_rfl, ?_⟩) hHeld ?_
  · intro wz hSw
    go_simp
  refine wpAnyH_take (i := 1) (v := .pointer (some ⟨W.heap.size, 8, none⟩)) rfl (by kernel_rfl) (by kernel_rfl) (by kernel_rfl) (fun _ _ _ h => h) (Or.inl ⟨by kernel_rfl, ?_⟩) hHeld ?_
  · intro wz hSw
    go_simp
  try simp only [Act.put, List.getElem_toArray, List.getElem_cons_succ, List.getElem_cons_zero, List.setIfInBounds_toArray, List.set_cons_zero, List.set_cons_succ]
  refine wpAnyH_take (i := 2) (v := .agg #[.int .u64 7, .int .i64 (E 1).base, .slice Ao no co, .slice Aw nw cw, .int .i64 (E 1).next, .slice Ae ne cq, .int .i64 (E 1).idle, .bool (E 1).dead]) rfl (by kernel_rfl) (by kernel_rfl) (by kernel_rfl) (fun _ _ _ h => h) (Or.inl ⟨by kernel_rfl, ?_⟩) hHeld ?_
  · intro wz hSw
    have hh := HDd.out.below hSw
    obtain ⟨z0, z1, z2, z3, z4, z5, z6, z7⟩ := hh.st.cel 1 (by decide)
    have q0 : wz.cell? ⟨W.heap.size, 8, none⟩ = some (.int .u64 7) := z0
    have q1 : wz.cell? ⟨W.heap.size, 9, none⟩ = some (.int .i64 (E 1).base) := z1
    have q2 : wz.cell? ⟨W.heap.size, 10, none⟩ = some (.slice Ao no co) := by rw [← HSH.out.1]; exact z2
    have q3 : wz.cell? ⟨W.heap.size, 11, none⟩ = some (.slice Aw nw cw) := by rw [← HSH.out.2.1]; exact z3
    have q4 : wz.cell? ⟨W.heap.size, 12, none⟩ = some (.int .i64 (E 1).next) := z4
    have q5 : wz.cell? ⟨W.heap.size, 13, none⟩ = some (.slice Ae ne cq) := by rw [← HSH.out.2.2]; exact z5
    have q6 : wz.cell? ⟨W.heap.size, 14, none⟩ = some (.int .i64 (E 1).idle) := z6
    have q7 : wz.cell? ⟨W.heap.size, 15, none⟩ = some (.bool (E 1).dead) := z7
    clear z0 z1 z2 z3 z4 z5 z6 z7
    go_simp
  refine wpAnyH_take (i := 3) (v := .slice (some ⟨gb, go, none⟩) n3 c3) rfl (by kernel_rfl) (by kernel_rfl) (by kernel_rfl) (fun _ _ _ h => h) (Or.inl ⟨by kernel_rfl, ?_⟩) hHeld ?_
  · intro wz hSw
    go_simp
  refine wpAnyH_take (i := 4) (v := .pointer (some ⟨wr.heap.size, 2, none⟩)) rfl (by kernel_rfl) (by kernel_rfl) (by kernel_rfl) (fun _ _ _ h => h) (Or.inl ⟨by kernel_rfl, ?_⟩) hHeld ?_
  · intro wz hSw
    go_simp
  refine wpAnyH_take (i := 5) (v := .int .u8 kc) rfl (by kernel_rfl) (by kernel_rfl) (by kernel_rfl) (fun _ _ _ h => h) (Or.inl ⟨by kernel_rfl, ?_⟩) hHeld ?_
  · intro wz hSw
    have hh := (hSw.cell (p := ⟨wr.heap.size, 2, none⟩) HSZ.out.1).trans HCD.out
    go_simp
  refine wpAnyH_take (i := 6) (v := .int .i64 kc) rfl (by kernel_rfl) (by kernel_rfl) (by kernel_rfl) (fun _ _ _ h => h) (Or.inl ⟨by kernel_rfl, ?_⟩) hHeld ?_
  · intro wz hSw
    go_simp
    first | done | ((try rw [Int.tdiv_eq_ediv_of_nonneg (by omega)]); (try rw [Int.tmod_eq_emod_of_nonneg (by omega)]); (try rw [IntKind.wrap_i64]); (try omega))
  try simp only [Act.put, List.getElem_toArray, List.getElem_cons_succ, List.getElem_cons_zero, List.setIfInBounds_toArray, List.set_cons_zero, List.set_cons_succ]
  refine wpAnyH_take (i := 7) (v := .slice (some ⟨gb, go, none⟩) n3 c3) rfl (by kernel_rfl) (by kernel_rfl) (by kernel_rfl) (fun _ _ _ h => h) (Or.inl ⟨by kernel_rfl, ?_⟩) hHeld ?_
  · intro wz hSw
    go_simp
  refine wpAnyH_take (i := 8) (v := .int .i64 n3) rfl (by kernel_rfl) (by kernel_rfl) (by kernel_rfl) (fun _ _ _ h => h) (Or.inl ⟨by kernel_rfl, ?_⟩) hHeld ?_
  · intro wz hSw
    go_simp
  refine wpAnyH_take (i := 9) (v := .int .i64 m) rfl (by kernel_rfl) (by kernel_rfl) (by kernel_rfl) (fun _ _ _ h => h) (Or.inl ⟨by kernel_rfl, ?_⟩) hHeld ?_
  · intro wz hSw
    go_simp
    first | done | ((try rw [Int.tdiv_eq_ediv_of_nonneg (by omega)]); (try rw [Int.tmod_eq_emod_of_nonneg (by omega)]); (try rw [IntKind.wrap_i64]); (try omega))
  refine wpAnyH_take (i := 10) (v := .pointer (some ⟨gb, go + m, none⟩)) rfl (by kernel_rfl) (by kernel_rfl) (by kernel_rfl) (fun _ _ _ h => h) (Or.inl ⟨by kernel_rfl, ?_⟩) hHeld ?_
  · intro wz hSw
    go_simp
    first | done | ((try rw [Int.tdiv_eq_ediv_of_nonneg (by omega)]); (try rw [Int.tmod_eq_emod_of_nonneg (by omega)]); (try rw [IntKind.wrap_i64]); (try omega))
  refine wpAnyH_take (i := 11) (v := .string y) rfl (by kernel_rfl) (by kernel_rfl) (by kernel_rfl) (fun _ _ _ h => h) (Or.inl ⟨by kernel_rfl, ?_⟩) hHeld ?_
  · intro wz hSw
    have hh := (hSw.cell (p := ⟨gb, go + m, none⟩) HSZ.out.2).trans HCY.out
    go_simp
  try simp only [Act.put, List.getElem_toArray, List.getElem_cons_succ, List.getElem_cons_zero, List.setIfInBounds_toArray, List.set_cons_zero, List.set_cons_succ]
  refine wpAnyH_ready (rs := [12, 16]) (by kernel_rfl) (by simp) ?_
  refine (AllReadyH.cons rfl (fun Kc hK => ?_) (AllReadyH.cons rfl (fun Kc hK => ?_) AllReadyH.nil))
  · go_simp
    have hje := junk_end (HDd.out.st.ends 1 (by decide)) (by have := (HDd.out.len 1 (by decide)).1; omega) (by have := (HDd.out.len 0 (by decide)).1; exact Nat.le_trans this (by decide)) (by have := HDd.out.st.ear 1 (by decide); omega) y (by have := HY.out.1; omega) HY.out.2
    unfold EndV.v End8 at hje
    rw [HSH.out.1, HSH.out.2.1, HSH.out.2.2] at hje
    go_at_call 14
    refine hje.mono ?_
    rintro er wt ⟨rfl, hb⟩
    clear hje
    have HBt := Lib.hid hb
    clear hb
    go_wp2_with fail
    refine hK.out _ _ HBt.out (fun hHeld => ?_)
    clear hK Kc
    try simp only [Act.put, List.getElem_toArray, List.getElem_cons_succ, List.getElem_cons_zero, List.setIfInBounds_toArray, List.set_cons_zero, List.set_cons_succ]
    refine wpAnyH_take (i := 13) (v := .tuple #[.agg #[.int .u64 7, .int .i64 (E 1).base, .slice Ao no co, .slice Aw nw cw, .int .i64 (E 1).next, .slice Ae ne cq, .int .i64 (E 1).idle, .bool (E 1).dead], .slice none 0 0]) rfl (by kernel_rfl) (by kernel_rfl) (by kernel_rfl) (fun _ _ _ h => h) (Or.inl ⟨by kernel_rfl, ?_⟩) hHeld ?_
    · intro wz hSw
      go_simp
    refine wpAnyH_take (i := 14) (v := .agg #[.int .u64 7, .int .i64 (E 1).base, .slice Ao no co, .slice Aw nw cw, .int .i64 (E 1).next, .slice Ae ne cq, .int .i64 (E 1).idle, .bool (E 1).dead]) rfl (by kernel_rfl) (by kernel_rfl) (by kernel_rfl) (fun _ _ _ h => h) (Or.inl ⟨by kernel_rfl, ?_⟩) hHeld ?_
    · intro wz hSw
      go_simp
    refine wpAnyH_take (i := 15) (v := .slice none 0 0) rfl (by kernel_rfl) (by kernel_rfl) (by kernel_rfl) (fun _ _ _ h => h) (Or.inl ⟨by kernel_rfl, ?_⟩) hHeld ?_
    · intro wz hSw
      go_simp
    refine wpAnyH_ready (rs := [16]) (by kernel_rfl) (by simp) ?_
    refine (AllReadyH.cons rfl (fun Kc hK => ?_) AllReadyH.nil)
    go_simp
    have HV : Hid ((wt.alloc (.cells #[.int .u64 0, .int .i64 0, .slice none 0 0, .slice none 0 0, .int .i64 0, .slice none 0 0, .int .i64 0, .bool false] 37)).heap[wt.heap.size]? = some (.cells #[.int .u64 0, .int .i64 0, .slice none 0 0, .slice none 0 0, .int .i64 0, .slice none 0 0, .int .i64 0, .bool false] 37)) := World.alloc_heap_new _ _
    have HBV : Hid (Below wd.heap.size wd (wt.alloc (.cells #[.int .u64 0, .int .i64 0, .slice none 0 0, .slice none 0 0, .int .i64 0, .slice none 0 0, .int .i64 0, .bool false] 37))) := HBt.out.alloc HBt.out.size _
    have HQB : Hid (wd.heap.size ≤ wt.heap.size) := HBt.out.size
    obtain ⟨tb, htb⟩ : ∃ q, q = wt.heap.size := ⟨_, rfl⟩
    rw [← htb] at HV HQB ⊢
    clear htb HBt
    generalize wt.alloc (.cells #[.int .u64 0, .int .i64 0, .slice none 0 0, .slice none 0 0, .int .i64 0, .slice none 0 0, .int .i64 0, .bool false] 37) = wv at *
    refine hK.out _ _ HBV.out (fun hHeld => ?_)
    clear hK Kc
    try simp only [Act.put, List.getElem_toArray, List.getElem_cons_succ, List.getElem_cons_zero, List.setIfInBounds_toArray, List.set_cons_zero, List.set_cons_succ]
    have k0 : wv.cell? ⟨tb, 0, none⟩ = some (.int .u64 0) := cells_at HV.out 0
    have k1 : wv.cell? ⟨tb, 1, none⟩ = some (.int .i64 0) := cells_at HV.out 1
    have k2 : wv.cell? ⟨tb, 2, none⟩ = some (.slice none 0 0) := cells_at HV.out 2
    have k3 : wv.cell? ⟨tb, 3, none⟩ = some (.slice none 0 0) := cells_at HV.out 3
    have k4 : wv.cell? ⟨tb, 4, none⟩ = some (.int .i64 0) := cells_at HV.out 4
    have k5 : wv.cell? ⟨tb, 5, none⟩ = some (.slice none 0 0) := cells_at HV.out 5
    have k6 : wv.cell? ⟨tb, 6, none⟩ = some (.int .i64 0) := cells_at HV.out 6
    have k7 : wv.cell? ⟨tb, 7, none⟩ = some (.bool false) := cells_at HV.out 7
    have f0 : wv.frozen? ⟨tb, 0, none⟩ = false := frozen_of_row _ _ _ _ _ HV.out
    have f1 : wv.frozen? ⟨tb, 1, none⟩ = false := frozen_of_row _ _ _ _ _ HV.out
    have f2 : wv.frozen? ⟨tb, 2, none⟩ = false := frozen_of_row _ _ _ _ _ HV.out
    have f3 : wv.frozen? ⟨tb, 3, none⟩ = false := frozen_of_row _ _ _ _ _ HV.out
    have f4 : wv.frozen? ⟨tb, 4, none⟩ = false := frozen_of_row _ _ _ _ _ HV.out
    have f5 : wv.frozen? ⟨tb, 5, none⟩ = false := frozen_of_row _ _ _ _ _ HV.out
    have f6 : wv.frozen? ⟨tb, 6, none⟩ = false := frozen_of_row _ _ _ _ _ HV.out
    have f7 : wv.frozen? ⟨tb, 7, none⟩ = false := frozen_of_row _ _ _ _ _ HV.out
    refine wpAnyH_ready (rs := [17]) (by kernel_rfl) (by simp) ?_
    refine (AllReadyH.cons rfl (fun Kc hK => ?_) AllReadyH.nil)
    go_simp
    obtain ⟨ww, hww⟩ : ∃ q, q = ((((((((wv.setCell ⟨tb, 0, none⟩ (.int .u64 7)).setCell ⟨tb, 1, none⟩ (.int .i64 (E 1).base)).setCell ⟨tb, 2, none⟩ (.slice Ao no co)).setCell ⟨tb, 3, none⟩ (.slice Aw nw cw)).setCell ⟨tb, 4, none⟩ (.int .i64 (E 1).next)).setCell ⟨tb, 5, none⟩ (.slice Ae ne cq)).setCell ⟨tb, 6, none⟩ (.int .i64 (E 1).idle)).setCell ⟨tb, 7, none⟩ (.bool (E 1).dead)) := ⟨_, rfl⟩
    rw [← hww]
    have HB5 : Hid (Below wd.heap.size wd ww) := by
      unfold Hid
      rw [hww]
      exact below_set8o HBV.out HQB.out 0 (.int .u64 7) (.int .i64 (E 1).base) (.slice Ao no co) (.slice Aw nw cw) (.int .i64 (E 1).next) (.slice Ae ne cq) (.int .i64 (E 1).idle) (.bool (E 1).dead)
    have HC5 : Hid (C8 tb 0 (.int .u64 7) (.int .i64 (E 1).base) (.slice Ao no co) (.slice Aw nw cw) (.int .i64 (E 1).next) (.slice Ae ne cq) (.int .i64 (E 1).idle) (.bool (E 1).dead) ww) := by
      unfold Hid
      rw [hww]
      have hz : C8 tb 0 (.int .u64 0) (.int .i64 0) (.slice none 0 0) (.slice none 0 0) (.int .i64 0) (.slice none 0 0) (.int .i64 0) (.bool false) wv := ⟨k0, k1, k2, k3, k4, k5, k6, k7⟩
      exact hz.set (.int .u64 7) (.int .i64 (E 1).base) (.slice Ao no co) (.slice Aw nw cw) (.int .i64 (E 1).next) (.slice Ae ne cq) (.int .i64 (E 1).idle) (.bool (E 1).dead)
    have HT5 : Hid (tb < ww.heap.size) := by
      unfold Hid
      rw [hww]
      simp only [World.size_setCell]
      exact (Array.getElem?_eq_some_iff.1 HV.out).1
    clear HV k0 k1 k2 k3 k4 k5 k6 k7 f0 f1 f2 f3 f4 f5 f6 f7 hww
    refine hK.out _ _ HB5.out (fun hHeld => ?_)
    clear hK Kc
    try simp only [Act.put, List.getElem_toArray, List.getElem_cons_succ, List.getElem_cons_zero, List.setIfInBounds_toArray, List.set_cons_zero, List.set_cons_succ]
    refine wpAnyH_take (i := 18) (v := .slice none 0 0) rfl (by kernel_rfl) (by kernel_rfl) (by kernel_rfl) (fun _ _ _ h => h) (Or.inl ⟨by kernel_rfl, ?_⟩) hHeld ?_
    · intro wz hSw
      go_simp
    refine wpAnyH_done (by kernel_rfl) ?_ _
    refine NoPanic.normal ?_
    go_wp2_with fail
    have HDx := Lib.hid ((HDd.out.below HB5.out).below (Below.refl _ _).drew)
    have HBx := Lib.hid ((HBd.out.trans (HB5.out.mono HBd.out.size)).drew)
    have HCx : Hid (C8 tb 0 (.int .u64 7) (.int .i64 (E 1).base) (.slice Ao no co) (.slice Aw nw cw) (.int .i64 (E 1).next) (.slice Ae ne cq) (.int .i64 (E 1).idle) (.bool (E 1).dead) ww.drew) := HC5.out
    have HTx : Hid (tb < ww.drew.heap.size) := HT5.out
    refine wp_region_noPanic ?_
    refine wp_region_held_drew (S := fun w' => Below ww.drew.heap.size ww.drew w') (by kernel_rfl) (Below.refl _ _) (fun hHeld => ?_)
    clear HC5 HT5 HB5 HDd HBd HBV HCD HCY HSZ
    generalize ww.drew = wx at *
    refine wpAnyH_take (i := 0) (v := .slice none 0 0) rfl (by kernel_rfl) (by kernel_rfl) (by kernel_rfl) (fun _ _ _ h => h) (Or.inl ⟨by kernel_rfl, ?_⟩) hHeld ?_
    · intro wz hSw
      go_simp
    try simp only [Act.put, List.getElem_toArray, List.getElem_cons_succ, List.getElem_cons_zero, List.setIfInBounds_toArray, List.set_cons_zero, List.set_cons_succ]
    refine wpAnyH_take (i := 1) (v := .int .i64 0) rfl (by kernel_rfl) (by kernel_rfl) (by kernel_rfl) (fun _ _ _ h => h) (Or.inl ⟨by kernel_rfl, ?_⟩) hHeld ?_
    · intro wz hSw
      go_simp
    refine wpAnyH_take (i := 2) (v := .bool false) rfl (by kernel_rfl) (by kernel_rfl) (by kernel_rfl) (fun _ _ _ h => h) (Or.inl ⟨by kernel_rfl, ?_⟩) hHeld ?_
    · intro wz hSw
      go_simp
    refine wpAnyH_take (i := 3) (v := .bool false) rfl (by kernel_rfl) (by kernel_rfl) (by kernel_rfl) (fun _ _ _ h => h) (Or.inl ⟨by kernel_rfl, ?_⟩) hHeld ?_
    · intro wz hSw
      go_simp
    refine wpAnyH_take (i := 4) (v := .agg #[.int .u64 7, .int .i64 (E 1).base, .slice Ao no co, .slice Aw nw cw, .int .i64 (E 1).next, .slice Ae ne cq, .int .i64 (E 1).idle, .bool (E 1).dead]) rfl (by kernel_rfl) (by kernel_rfl) (by kernel_rfl) (fun _ _ _ h => h) (Or.inl ⟨by kernel_rfl, ?_⟩) hHeld ?_
    · intro wz hSw
      obtain ⟨z0, z1, z2, z3, z4, z5, z6, z7⟩ := HCx.out
      have q0 := (hSw.cell (p := ⟨tb, 0, none⟩) HTx.out).trans z0
      have q1 := (hSw.cell (p := ⟨tb, 1, none⟩) HTx.out).trans z1
      have q2 := (hSw.cell (p := ⟨tb, 2, none⟩) HTx.out).trans z2
      have q3 := (hSw.cell (p := ⟨tb, 3, none⟩) HTx.out).trans z3
      have q4 := (hSw.cell (p := ⟨tb, 4, none⟩) HTx.out).trans z4
      have q5 := (hSw.cell (p := ⟨tb, 5, none⟩) HTx.out).trans z5
      have q6 := (hSw.cell (p := ⟨tb, 6, none⟩) HTx.out).trans z6
      have q7 := (hSw.cell (p := ⟨tb, 7, none⟩) HTx.out).trans z7
      clear z0 z1 z2 z3 z4 z5 z6 z7
      go_simp
    refine wpAnyH_take (i := 5) (v := .int .i64 1) rfl (by kernel_rfl) (by kernel_rfl) (by kernel_rfl) (fun _ _ _ h => h) (Or.inl ⟨by kernel_rfl, ?_⟩) hHeld ?_
    · intro wz hSw
      go_simp
    try simp only [Act.put, List.getElem_toArray, List.getElem_cons_succ, List.getElem_cons_zero, List.setIfInBounds_toArray, List.set_cons_zero, List.set_cons_succ]
    refine wpAnyH_take (i := 6) (v := .pointer (some ⟨W.heap.size, 8, none⟩)) rfl (by kernel_rfl) (by kernel_rfl) (by kernel_rfl) (fun _ _ _ h => h) (Or.inl ⟨by kernel_rfl, ?_⟩) hHeld ?_
    · intro wz hSw
      go_simp
    refine wpAnyH_take (i := 7) (v := .agg #[.int .u64 7, .int .i64 (E 1).base, .slice Ao no co, .slice Aw nw cw, .int .i64 (E 1).next, .slice Ae ne cq, .int .i64 (E 1).idle, .bool (E 1).dead]) rfl (by kernel_rfl) (by kernel_rfl) (by kernel_rfl) (fun _ _ _ h => h) (Or.inl ⟨by kernel_rfl, ?_⟩) hHeld ?_
    · intro wz hSw
      have hh := HDx.out.below hSw
      obtain ⟨z0, z1, z2, z3, z4, z5, z6, z7⟩ := hh.st.cel 1 (by decide)
      have q0 : wz.cell? ⟨W.heap.size, 8, none⟩ = some (.int .u64 7) := z0
      have q1 : wz.cell? ⟨W.heap.size, 9, none⟩ = some (.int .i64 (E 1).base) := z1
      have q2 : wz.cell? ⟨W.heap.size, 10, none⟩ = some (.slice Ao no co) := by rw [← HSH.out.1]; exact z2
      have q3 : wz.cell? ⟨W.heap.size, 11, none⟩ = some (.slice Aw nw cw) := by rw [← HSH.out.2.1]; exact z3
      have q4 : wz.cell? ⟨W.heap.size, 12, none⟩ = some (.int .i64 (E 1).next) := z4
      have q5 : wz.cell? ⟨W.heap.size, 13, none⟩ = some (.slice Ae ne cq) := by rw [← HSH.out.2.2]; exact z5
      have q6 : wz.cell? ⟨W.heap.size, 14, none⟩ = some (.int .i64 (E 1).idle) := z6
      have q7 : wz.cell? ⟨W.heap.size, 15, none⟩ = some (.bool (E 1).dead) := z7
      clear z0 z1 z2 z3 z4 z5 z6 z7
      go_simp
    have hEx := HDx.out.st.ends 1 (by decide)
    have hse := esame_any 7 (E 1).base (E 1).next (E 1).idle (E 1).dead _ _ _ _ _ _ _ _ wx hEx.o.1 hEx.o.1 hEx.w.1 hEx.w.1 hEx.f.1
    unfold End8 at hse
    rw [HSH.out.1, HSH.out.2.1, HSH.out.2.2] at hse
    refine wpAnyH_ready (rs := [8]) (by kernel_rfl) (by simp) ?_
    refine (AllReadyH.cons rfl (fun Kc hK => ?_) AllReadyH.nil)
    go_simp
    go_at_call 15
    refine hse.mono ?_
    rintro er w6 ⟨rfl, hb⟩
    have HB6 := Lib.hid (HBx.out.trans (hb.mono HBx.out.size))
    have HD6 := Lib.hid (HDx.out.below hb)
    have HS6 := Lib.hid hb
    clear hb hse hEx HDx HBx HCx HTx
    go_wp2_with fail
    refine hK.out _ _ HS6.out (fun hHeld => ?_)
    clear hK Kc
    try simp only [Act.put, List.getElem_toArray, List.getElem_cons_succ, List.getElem_cons_zero, List.setIfInBounds_toArray, List.set_cons_zero, List.set_cons_succ]
    refine wpAnyH_take (i := 9) (v := .bool false) rfl (by kernel_rfl) (by kernel_rfl) (by kernel_rfl) (fun _ _ _ h => h) (Or.inl ⟨by kernel_rfl, ?_⟩) hHeld ?_
    · intro wz hSw
      go_simp
    refine wpAnyH_take (i := 10) (v := .bool false) rfl (by kernel_rfl) (by kernel_rfl) (by kernel_rfl) (fun _ _ _ h => h) (Or.inl ⟨by kernel_rfl, ?_⟩) hHeld ?_
    · intro wz hSw
      go_simp
    refine wpAnyH_done (by kernel_rfl) ?_ _
    refine NoPanic.normal ?_
    clear hm hm' hq hq'
    go_wp2_with fail
    exact HNX.out _ _ _ _ _ _ _ _ _ _ _ _ _ _ _ _ _ _ _ _ _ _ _ _ _ _ _ _ _ _ _ _ _ _ _ _ _ _ _ _ _ _ _ _ _ _ _ _ _ _ _ _ _ _ _ _ _ _ _ _ _ _ _ _ _ _ _ _ _ _ _ _ _ _ _ _ _ _ _ _ _ _ _ _ _ _ _ _ _ _ _ _ _ _ _ _ _ _ _ _ _ _ _ _ _ _ _ _ _ _ _ (⟨S, v, l, E, K, HD6.out.more (by omega)⟩) (HB6.out)
  · go_simp
    have HV0 : Hid ((wd.alloc (.cells #[.int .u64 0, .int .i64 0, .slice none 0 0, .slice none 0 0, .int .i64 0, .slice none 0 0, .int .i64 0, .bool false] 37)).heap[wd.heap.size]? = some (.cells #[.int .u64 0, .int .i64 0, .slice none 0 0, .slice none 0 0, .int .i64 0, .slice none 0 0, .int .i64 0, .bool false] 37)) := World.alloc_heap_new _ _
    have HBA : Hid (Below wd.heap.size wd (wd.alloc (.cells #[.int .u64 0, .int .i64 0, .slice none 0 0, .slice none 0 0, .int .i64 0, .slice none 0 0, .int .i64 0, .bool false] 37))) := (Below.refl _ _).alloc (Nat.le_refl _) _
    have HQQ : Hid (wd.heap.size < (wd.alloc (.cells #[.int .u64 0, .int .i64 0, .slice none 0 0, .slice none 0 0, .int .i64 0, .slice none 0 0, .int .i64 0, .bool false] 37)).heap.size) := by unfold Hid; rw [World.size_alloc]; omega
    obtain ⟨tb, htb⟩ : ∃ q, q = wd.heap.size := ⟨_, rfl⟩
    have HQB : Hid (wd.heap.size ≤ tb) := by unfold Hid; omega
    rw [← htb] at HV0 HQQ ⊢
    clear htb
    generalize wd.alloc (.cells #[.int .u64 0, .int .i64 0, .slice none 0 0, .slice none 0 0, .int .i64 0, .slice none 0 0, .int .i64 0, .bool false] 37) = wa' at *
    refine hK.out _ _ HBA.out (fun hHeld => ?_)
    clear hK Kc
    try simp only [Act.put, List.getElem_toArray, List.getElem_cons_succ, List.getElem_cons_zero, List.setIfInBounds_toArray, List.set_cons_zero, List.set_cons_succ]
    refine wpAnyH_ready (rs := [12]) (by kernel_rfl) (by simp) ?_
    refine (AllReadyH.cons rfl (fun Kc hK => ?_) AllReadyH.nil)
    go_simp
    have hje := junk_end ((HDd.out.below HBA.out).st.ends 1 (by decide)) (by have := ((HDd.out.below HBA.out).len 1 (by decide)).1; omega) (by have := ((HDd.out.below HBA.out).len 0 (by decide)).1; exact Nat.le_trans this (by decide)) (by have := (HDd.out.below HBA.out).st.ear 1 (by decide); omega) y (by have := HY.out.1; omega) HY.out.2
    unfold EndV.v End8 at hje
    rw [HSH.out.1, HSH.out.2.1, HSH.out.2.2] at hje
    go_at_call 14
    refine hje.mono ?_
    rintro er wt ⟨rfl, hb⟩
    clear hje
    have HBV : Hid (Below wd.heap.size wd wt) := HBA.out.trans (hb.mono HBA.out.size)
    have HV : Hid (wt.heap[tb]? = some (.cells #[.int .u64 0, .int .i64 0, .slice none 0 0, .slice none 0 0, .int .i64 0, .slice none 0 0, .int .i64 0, .bool false] 37)) := (hb.block _ HQQ.out).trans HV0.out
    clear hb HV0 HQQ HBA
    go_wp2_with fail
    refine hK.out _ _ HBV.out (fun hHeld => ?_)
    clear hK Kc
    try simp only [Act.put, List.getElem_toArray, List.getElem_cons_succ, List.getElem_cons_zero, List.setIfInBounds_toArray, List.set_cons_zero, List.set_cons_succ]
    refine wpAnyH_take (i := 13) (v := .tuple #[.agg #[.int .u64 7, .int .i64 (E 1).base, .slice Ao no co, .slice Aw nw cw, .int .i64 (E 1).next, .slice Ae ne cq, .int .i64 (E 1).idle, .bool (E 1).dead], .slice none 0 0]) rfl (by kernel_rfl) (by kernel_rfl) (by kernel_rfl) (fun _ _ _ h => h) (Or.inl ⟨by kernel_rfl, ?_⟩) hHeld ?_
    · intro wz hSw
      go_simp
    try simp only [Act.put, List.getElem_toArray, List.getElem_cons_succ, List.getElem_cons_zero, List.setIfInBounds_toArray, List.set_cons_zero, List.set_cons_succ]
    refine wpAnyH_take (i := 14) (v := .agg #[.int .u64 7, .int .i64 (E 1).base, .slice Ao no co, .slice Aw nw cw, .int .i64 (E 1).next, .slice Ae ne cq, .int .i64 (E 1).idle, .bool (E 1).dead]) rfl (by kernel_rfl) (by kernel_rfl) (by kernel_rfl) (fun _ _ _ h => h) (Or.inl ⟨by kernel_rfl, ?_⟩) hHeld ?_
    · intro wz hSw
      go_simp
    refine wpAnyH_take (i := 15) (v := .slice none 0 0) rfl (by kernel_rfl) (by kernel_rfl) (by kernel_rfl) (fun _ _ _ h => h) (Or.inl ⟨by kernel_rfl, ?_⟩) hHeld ?_
    · intro wz hSw
      go_simp
    have k0 : wt.cell? ⟨tb, 0, none⟩ = some (.int .u64 0) := cells_at HV.out 0
    have k1 : wt.cell? ⟨tb, 1, none⟩ = some (.int .i64 0) := cells_at HV.out 1
    have k2 : wt.cell? ⟨tb, 2, none⟩ = some (.slice none 0 0) := cells_at HV.out 2
    have k3 : wt.cell? ⟨tb, 3, none⟩ = some (.slice none 0 0) := cells_at HV.out 3
    have k4 : wt.cell? ⟨tb, 4, none⟩ = some (.int .i64 0) := cells_at HV.out 4
    have k5 : wt.cell? ⟨tb, 5, none⟩ = some (.slice none 0 0) := cells_at HV.out 5
    have k6 : wt.cell? ⟨tb, 6, none⟩ = some (.int .i64 0) := cells_at HV.out 6
    have k7 : wt.cell? ⟨tb, 7, none⟩ = some (.bool false) := cells_at HV.out 7
    have f0 : wt.frozen? ⟨tb, 0, none⟩ = false := frozen_of_row _ _ _ _ _ HV.out
    have f1 : wt.frozen? ⟨tb, 1, none⟩ = false := frozen_of_row _ _ _ _ _ HV.out
    have f2 : wt.frozen? ⟨tb, 2, none⟩ = false := frozen_of_row _ _ _ _ _ HV.out
    have f3 : wt.frozen? ⟨tb, 3, none⟩ = false := frozen_of_row _ _ _ _ _ HV.out
    have f4 : wt.frozen? ⟨tb, 4, none⟩ = false := frozen_of_row _ _ _ _ _ HV.out
    have f5 : wt.frozen? ⟨tb, 5, none⟩ = false := frozen_of_row _ _ _ _ _ HV.out
    have f6 : wt.frozen? ⟨tb, 6, none⟩ = false := frozen_of_row _ _ _ _ _ HV.out
    have f7 : wt.frozen? ⟨tb, 7, none⟩ = false := frozen_of_row _ _ _ _ _ HV.out
    refine wpAnyH_ready (rs := [17]) (by kernel_rfl) (by simp) ?_
    refine (AllReadyH.cons rfl (fun Kc hK => ?_) AllReadyH.nil)
    go_simp
    obtain ⟨ww, hww⟩ : ∃ q, q = ((((((((wt.setCell ⟨tb, 0, none⟩ (.int .u64 7)).setCell ⟨tb, 1, none⟩ (.int .i64 (E 1).base)).setCell ⟨tb, 2, none⟩ (.slice Ao no co)).setCell ⟨tb, 3, none⟩ (.slice Aw nw cw)).setCell ⟨tb, 4, none⟩ (.int .i64 (E 1).next)).setCell ⟨tb, 5, none⟩ (.slice Ae ne cq)).setCell ⟨tb, 6, none⟩ (.int .i64 (E 1).idle)).setCell ⟨tb, 7, none⟩ (.bool (E 1).dead)) := ⟨_, rfl⟩
    rw [← hww]
    have HB5 : Hid (Below wd.heap.size wd ww) := by
      unfold Hid
      rw [hww]
      exact below_set8o HBV.out HQB.out 0 (.int .u64 7) (.int .i64 (E 1).base) (.slice Ao no co) (.slice Aw nw cw) (.int .i64 (E 1).next) (.slice Ae ne cq) (.int .i64 (E 1).idle) (.bool (E 1).dead)
    have HC5 : Hid (C8 tb 0 (.int .u64 7) (.int .i64 (E 1).base) (.slice Ao no co) (.slice Aw nw cw) (.int .i64 (E 1).next) (.slice Ae ne cq) (.int .i64 (E 1).idle) (.bool (E 1).dead) ww) := by
      unfold Hid
      rw [hww]
      have hz : C8 tb 0 (.int .u64 0) (.int .i64 0) (.slice none 0 0) (.slice none 0 0) (.int .i64 0) (.slice none 0 0) (.int .i64 0) (.bool false) wt := ⟨k0, k1, k2, k3, k4, k5, k6, k7⟩
      exact hz.set (.int .u64 7) (.int .i64 (E 1).base) (.slice Ao no co) (.slice Aw nw cw) (.int .i64 (E 1).next) (.slice Ae ne cq) (.int .i64 (E 1).idle) (.bool (E 1).dead)
    have HT5 : Hid (tb < ww.heap.size) := by
      unfold Hid
      rw [hww]
      simp only [World.size_setCell]
      exact (Array.getElem?_eq_some_iff.1 HV.out).1
    clear HV k0 k1 k2 k3 k4 k5 k6 k7 f0 f1 f2 f3 f4 f5 f6 f7 hww
    refine hK.out _ _ HB5.out (fun hHeld => ?_)
    clear hK Kc
    try simp only [Act.put, List.getElem_toArray, List.getElem_cons_succ, List.getElem_cons_zero, List.setIfInBounds_toArray, List.set_cons_zero, List.set_cons_succ]
    refine wpAnyH_take (i := 18) (v := .slice none 0 0) rfl (by kernel_rfl) (by kernel_rfl) (by kernel_rfl) (fun _ _ _ h => h) (Or.inl ⟨by kernel_rfl, ?_⟩) hHeld ?_
    · intro wz hSw
      go_simp
    refine wpAnyH_done (by kernel_rfl) ?_ _
    refine NoPanic.normal ?_
    go_wp2_with fail
    have HDx := Lib.hid ((HDd.out.below HB5.out).below (Below.refl _ _).drew)
    have HBx := Lib.hid ((HBd.out.trans (HB5.out.mono HBd.out.size)).drew)
    have HCx : Hid (C8 tb 0 (.int .u64 7) (.int .i64 (E 1).base) (.slice Ao no co) (.slice Aw nw cw) (.int .i64 (E 1).next) (.slice Ae ne cq) (.int .i64 (E 1).idle) (.bool (E 1).dead) ww.drew) := HC5.out
    have HTx : Hid (tb < ww.drew.heap.size) := HT5.out
    refine wp_region_noPanic ?_
    refine wp_region_held_drew (S := fun w' => Below ww.drew.heap.size ww.drew w') (by kernel_rfl) (Below.refl _ _) (fun hHeld => ?_)
    clear HC5 HT5 HB5 HDd HBd HBV HCD HCY HSZ
    generalize ww.drew = wx at *
    refine wpAnyH_take (i := 0) (v := .slice none 0 0) rfl (by kernel_rfl) (by kernel_rfl) (by kernel_rfl) (fun _ _ _ h => h) (Or.inl ⟨by kernel_rfl, ?_⟩) hHeld ?_
    · intro wz hSw
      go_simp
    refine wpAnyH_take (i := 1) (v := .int .i64 0) rfl (by kernel_rfl) (by kernel_rfl) (by kernel_rfl) (fun _ _ _ h => h) (Or.inl ⟨by kernel_rfl, ?_⟩) hHeld ?_
    · intro wz hSw
      go_simp
    try simp only [Act.put, List.getElem_toArray, List.getElem_cons_succ, List.getElem_cons_zero, List.setIfInBounds_toArray, List.set_cons_zero, List.set_cons_succ]
    refine wpAnyH_take (i := 2) (v := .bool false) rfl (by kernel_rfl) (by kernel_rfl) (by kernel_rfl) (fun _ _ _ h => h) (Or.inl ⟨by kernel_rfl, ?_⟩) hHeld ?_
    · intro wz hSw
      go_simp
    refine wpAnyH_take (i := 3) (v := .bool false) rfl (by kernel_rfl) (by kernel_rfl) (by kernel_rfl) (fun _ _ _ h => h) (Or.inl ⟨by kernel_rfl, ?_⟩) hHeld ?_
    · intro wz hSw
      go_simp
    refine wpAnyH_take (i := 4) (v := .agg #[.int .u64 7, .int .i64 (E 1).base, .slice Ao no co, .slice Aw nw cw, .int .i64 (E 1).next, .slice Ae ne cq, .int .i64 (E 1).idle, .bool (E 1).dead]) rfl (by kernel_rfl) (by kernel_rfl) (by kernel_rfl) (fun _ _ _ h => h) (Or.inl ⟨by kernel_rfl, ?_⟩) hHeld ?_
    · intro wz hSw
      obtain ⟨z0, z1, z2, z3, z4, z5, z6, z7⟩ := HCx.out
      have q0 := (hSw.cell (p := ⟨tb, 0, none⟩) HTx.out).trans z0
      have q1 := (hSw.cell (p := ⟨tb, 1, none⟩) HTx.out).trans z1
      have q2 := (hSw.cell (p := ⟨tb, 2, none⟩) HTx.out).trans z2
      have q3 := (hSw.cell (p := ⟨tb, 3, none⟩) HTx.out).trans z3
      have q4 := (hSw.cell (p := ⟨tb, 4, none⟩) HTx.out).trans z4
      have q5 := (hSw.cell (p := ⟨tb, 5, none⟩) HTx.out).trans z5
      have q6 := (hSw.cell (p := ⟨tb, 6, none⟩) HTx.out).trans z6
      have q7 := (hSw.cell (p := ⟨tb, 7, none⟩) HTx.out).trans z7
      clear z0 z1 z2 z3 z4 z5 z6 z7
      go_simp
    refine wpAnyH_take (i := 5) (v := .int .i64 1) rfl (by kernel_rfl) (by kernel_rfl) (by kernel_rfl) (fun _ _ _ h => h) (Or.inl ⟨by kernel_rfl, ?_⟩) hHeld ?_
    · intro wz hSw
      go_simp
    refine wpAnyH_take (i := 6) (v := .pointer (some ⟨W.heap.size, 8, none⟩)) rfl (by kernel_rfl) (by kernel_rfl) (by kernel_rfl) (fun _ _ _ h => h) (Or.inl ⟨by kernel_rfl, ?_⟩) hHeld ?_
    · intro wz hSw
      go_simp
    try simp only [Act.put, List.getElem_toArray, List.getElem_cons_succ, List.getElem_cons_zero, List.setIfInBounds_toArray, List.set_cons_zero, List.set_cons_succ]
    refine wpAnyH_take (i := 7) (v := .agg #[.int .u64 7, .int .i64 (E 1).base, .slice Ao no co, .slice Aw nw cw, .int .i64 (E 1).next, .slice Ae ne cq, .int .i64 (E 1).idle, .bool (E 1).dead]) rfl (by kernel_rfl) (by kernel_rfl) (by kernel_rfl) (fun _ _ _ h => h) (Or.inl ⟨by kernel_rfl, ?_⟩) hHeld ?_
    · intro wz hSw
      have hh := HDx.out.below hSw
      obtain ⟨z0, z1, z2, z3, z4, z5, z6, z7⟩ := hh.st.cel 1 (by decide)
      have q0 : wz.cell? ⟨W.heap.size, 8, none⟩ = some (.int .u64 7) := z0
      have q1 : wz.cell? ⟨W.heap.size, 9, none⟩ = some (.int .i64 (E 1).base) := z1
      have q2 : wz.cell? ⟨W.heap.size, 10, none⟩ = some (.slice Ao no co) := by rw [← HSH.out.1]; exact z2
      have q3 : wz.cell? ⟨W.heap.size, 11, none⟩ = some (.slice Aw nw cw) := by rw [← HSH.out.2.1]; exact z3
      have q4 : wz.cell? ⟨W.heap.size, 12, none⟩ = some (.int .i64 (E 1).next) := z4
      have q5 : wz.cell? ⟨W.heap.size, 13, none⟩ = some (.slice Ae ne cq) := by rw [← HSH.out.2.2]; exact z5
      have q6 : wz.cell? ⟨W.heap.size, 14, none⟩ = some (.int .i64 (E 1).idle) := z6
      have q7 : wz.cell? ⟨W.heap.size, 15, none⟩ = some (.bool (E 1).dead) := z7
      clear z0 z1 z2 z3 z4 z5 z6 z7
      go_simp
    have hEx := HDx.out.st.ends 1 (by decide)
    have hse := esame_any 7 (E 1).base (E 1).next (E 1).idle (E 1).dead _ _ _ _ _ _ _ _ wx hEx.o.1 hEx.o.1 hEx.w.1 hEx.w.1 hEx.f.1
    unfold End8 at hse
    rw [HSH.out.1, HSH.out.2.1, HSH.out.2.2] at hse
    refine wpAnyH_ready (rs := [8]) (by kernel_rfl) (by simp) ?_
    refine (AllReadyH.cons rfl (fun Kc hK => ?_) AllReadyH.nil)
    go_simp
    go_at_call 15
    refine hse.mono ?_
    rintro er w6 ⟨rfl, hb⟩
    have HB6 := Lib.hid (HBx.out.trans (hb.mono HBx.out.size))
    have HD6 := Lib.hid (HDx.out.below hb)
    have HS6 := Lib.hid hb
    clear hb hse hEx HDx HBx HCx HTx
    go_wp2_with fail
    refine hK.out _ _ HS6.out (fun hHeld => ?_)
    clear hK Kc
    try simp only [Act.put, List.getElem_toArray, List.getElem_cons_succ, List.getElem_cons_zero, List.setIfInBounds_toArray, List.set_cons_zero, List.set_cons_succ]
    refine wpAnyH_take (i := 9) (v := .bool false) rfl (by kernel_rfl) (by kernel_rfl) (by kernel_rfl) (fun _ _ _ h => h) (Or.inl ⟨by kernel_rfl, ?_⟩) hHeld ?_
    · intro wz hSw
      go_simp
    refine wpAnyH_take (i := 10) (v := .bool false) rfl (by kernel_rfl) (by kernel_rfl) (by kernel_rfl) (fun _ _ _ h => h) (Or.inl ⟨by kernel_rfl, ?_⟩) hHeld ?_
    · intro wz hSw
      go_simp
    refine wpAnyH_done (by kernel_rfl) ?_ _
    refine NoPanic.normal ?_
    clear hm hm' hq hq'
    go_wp2_with fail
    exact HNX.out _ _ _ _ _ _ _ _ _ _ _ _ _ _ _ _ _ _ _ _ _ _ _ _ _ _ _ _ _ _ _ _ _ _ _ _ _ _ _ _ _ _ _ _ _ _ _ _ _ _ _ _ _ _ _ _ _ _ _ _ _ _ _ _ _ _ _ _ _ _ _ _ _ _ _ _ _ _ _ _ _ _ _ _ _ _ _ _ _ _ _ _ _ _ _ _ _ _ _ _ _ _ _ _ _ _ _ _ _ _ _ (⟨S, v, l, E, K, HD6.out.more (by omega)⟩) (HB6.out)
end Go.Proofs.Ytjgjhjecgdndjaa
