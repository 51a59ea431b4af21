/- The law's walk (printed by gen-lo-law.py). -/
import Derived.Test.YtjgjhjecgdndjaaLoToA
import Derived.Test.YtjgjhjecgdndjaaLoToB
import Derived.Test.YtjgjhjecgdndjaaLoArgs
namespace Go.Proofs.Ytjgjhjecgdndjaa
open Go.RowKit
set_option linter.unusedVariables false
set_option linter.unusedSimpArgs false
def PX (N k j sb : Nat) (wS W : World) : Prop := ∃ S v l E vw, PHd N k j sb wS S S v l E vw W
theorem los_init {N : Nat} {W : World} (hN : N + 4 ≤ W.heap.size) (h0 : C8 N 0 (.int .u64 7) (.int .i64 0) (.slice none 0 0) (.slice none 0 0) (.int .i64 0) (.slice none 0 0) (.int .i64 0) (.bool false) W) (h1 : C8 N 8 (.int .u64 7) (.int .i64 0) (.slice none 0 0) (.slice none 0 0) (.int .i64 0) (.slice none 0 0) (.int .i64 0) (.bool false) W)
    (hr : ∀ r i, r < 3 → i < 2 → W.cell? ⟨N + 1 + r, i, none⟩ = some (.slice none 0 0)) (hf : ∀ b j, N ≤ b → b < N + 4 → W.frozen? ⟨b, j, none⟩ = false) : LoS N 0 (fun _ => []) (fun _ => .slice none 0 0) (fun _ => []) (fun _ => initV (.slice none 0 0) []) W := by
  refine ⟨⟨hN, fun i hi => World.ownsRow_nil _ _ _ _, fun i j hi hj hne g hg => by cases hg⟩, fun i hi => init_ok (strsN_nilL _) (Away.nil _ _ _ _ _), fun i hi => ?_, fun r i hr' hi => hr r i hr' hi, hf, fun i hi => ⟨by simp, by simp⟩, fun i hi => by simp [initV], hN⟩
  have : i = 0 ∨ i = 1 := by omega
  rcases this with rfl | rfl
  · exact h0
  · exact h1
set_option maxRecDepth 100000 in
set_option maxHeartbeats 8000000 in
theorem todo_round (W : World) (A3 : Option Addr) (n3 c3 : Nat) (x3 : List ByteArray) (n2 c2 gd od : Nat) (q0 q1 q2 q4 q5 q6 q7 q13 q14 q15 q16 q17 q18 q19 q20 q21 q22 q23 q29 q30 q31 q32 q33 q34 q35 q36 q37 q38 q39 q40 q41 q42 q43 q44 q45 q46 q47 q48 q49 q50 q51 q52 q53 q54 q55 q56 q57 q58 q59 q60 q61 q62 q63 q64 q65 q66 q67 q68 q69 q70 q71 q72 q73 q74 q75 q76 q77 q78 q79 q80 q81 q82 q83 q84 q85 q86 q87 q88 q89 q90 q91 q92 q93 q94 q95 q96 q97 q98 q99 q100 q101 q102 q103 q104 q105 q106 q107 q108 q109 q110 q111 q112 q113 q114 q115 q116 q117 q118 q119 q120 q228 q229 q230 q231 q232 q233 q234 q235 q236 q237 q238 q239 q240 q241 q242 q243 q244 q245 q246 q247 q248 q249 q250 q251 q252 q253 q254 q255 q256 : Value) (u8 u24 u25 u26 u27 u28 u124 u125 u126 u127 u128 u129 u130 u131 u132 u133 u134 u135 u136 u137 u138 u139 u140 u141 u142 u143 u144 u145 u146 u147 u148 u149 u150 u151 u152 u153 u154 u155 u156 u157 u158 u159 u160 u161 u162 u163 u164 u165 u166 u167 u168 u169 u170 u171 u172 u173 u174 u175 u176 u177 u178 u179 u180 u181 u182 u183 u184 u185 u186 u187 u188 u189 u190 u191 u192 u193 u194 u195 u196 u197 u198 u199 u200 u201 u202 u203 u204 u205 u206 u207 u208 u209 u210 u211 u212 u213 u214 u215 u216 u217 u218 u219 u220 u221 u222 u223 u224 u225 u226 u227 : Value) (wr : World) (j ka kb kc : Nat) (S : Nat → List ByteArray) (v : Nat → Value) (l : Nat → List ByteArray) (E : Nat → EndV) (K : Nat → Nat) (Q : Exit → Act → World → Prop) (HL3 : Hid (StrsN W (.slice A3 n3 c3) x3)) (HN3 : Hid (x3.length = n3)) (HJA : Hid (∀ y ∈ x3, JK y)) (g2 : n2 ≤ 120) (g3 : n3 ≤ 20) (hlt : j < n2) (h256 : ka < 256 ∧ kb < 256 ∧ kc < 256) (e0 : wr.cell? ⟨gd, od + j * 3, none⟩ = some (.int .u8 ka)) (e1 : wr.cell? ⟨gd, od + j * 3 + 1, none⟩ = some (.int .u8 kb)) (e2 : wr.cell? ⟨gd, od + j * 3 + 2, none⟩ = some (.int .u8 kc)) (HB : Hid (Below W.heap.size W wr)) (hD : TdS W.heap.size j S v l E K K wr) (HNX : Hid (∀ (v8 v24 v25 v26 v27 v28 v124 v125 v126 v127 v128 v129 v130 v131 v132 v133 v134 v135 v136 v137 v138 v139 v140 v141 v142 v143 v144 v145 v146 v147 v148 v149 v150 v151 v152 v153 v154 v155 v156 v157 v158 v159 v160 v161 v162 v163 v164 v165 v166 v167 v168 v169 v170 v171 v172 v173 v174 v175 v176 v177 v178 v179 v180 v181 v182 v183 v184 v185 v186 v187 v188 v189 v190 v191 v192 v193 v194 v195 v196 v197 v198 v199 v200 v201 v202 v203 v204 v205 v206 v207 v208 v209 v210 v211 v212 v213 v214 v215 v216 v217 v218 v219 v220 v221 v222 v223 v224 v225 v226 v227 : Value) (w' : World), TX W.heap.size (j + 1) w' → Below W.heap.size W w' → Q .normal ⟨#[q0, q1, q2, .slice A3 n3 c3, q4, q5, q6, q7, v8, .pointer (some ⟨W.heap.size, 0, none⟩), .pointer (some ⟨W.heap.size + 1, 0, none⟩), .pointer (some ⟨W.heap.size + 1 + 1, 0, none⟩), .pointer (some ⟨W.heap.size + 1 + 1 + 1, 0, none⟩), q13, q14, q15, q16, q17, q18, q19, q20, q21, q22, q23, v24, v25, v26, v27, v28, q29, q30, q31, q32, q33, q34, q35, q36, q37, q38, q39, q40, q41, q42, q43, q44, q45, q46, q47, q48, q49, q50, q51, q52, q53, q54, q55, q56, q57, q58, q59, q60, q61, q62, q63, q64, q65, q66, q67, q68, q69, q70, q71, q72, q73, q74, q75, q76, q77, q78, q79, q80, q81, q82, q83, q84, q85, q86, q87, q88, q89, q90, q91, q92, q93, q94, q95, q96, q97, q98, q99, q100, q101, q102, q103, q104, q105, q106, q107, q108, q109, q110, q111, q112, q113, q114, q115, q116, q117, q118, q119, q120, .slice (some ⟨gd, od, none⟩) n2 c2, .int .i64 n2, .int .i64 ((j : Int) + 1), v124, v125, v126, v127, v128, v129, v130, v131, v132, v133, v134, v135, v136, v137, v138, v139, v140, v141, v142, v143, v144, v145, v146, v147, v148, v149, v150, v151, v152, v153, v154, v155, v156, v157, v158, v159, v160, v161, v162, v163, v164, v165, v166, v167, v168, v169, v170, v171, v172, v173, v174, v175, v176, v177, v178, v179, v180, v181, v182, v183, v184, v185, v186, v187, v188, v189, v190, v191, v192, v193, v194, v195, v196, v197, v198, v199, v200, v201, v202, v203, v204, v205, v206, v207, v208, v209, v210, v211, v212, v213, v214, v215, v216, v217, v218, v219, v220, v221, v222, v223, v224, v225, v226, v227, q228, q229, q230, q231, q232, q233, q234, q235, q236, q237, q238, q239, q240, q241, q242, q243, q244, q245, q246, q247, q248, q249, q250, q251, q252, q253, q254, q255, q256], []⟩ w')) :
    Code.wp Try.prog todoBody Q ⟨#[q0, q1, q2, .slice A3 n3 c3, q4, q5, q6, q7, u8, .pointer (some ⟨W.heap.size, 0, none⟩), .pointer (some ⟨W.heap.size + 1, 0, none⟩), .pointer (some ⟨W.heap.size + 1 + 1, 0, none⟩), .pointer (some ⟨W.heap.size + 1 + 1 + 1, 0, none⟩), q13, q14, q15, q16, q17, q18, q19, q20, q21, q22, q23, u24, u25, u26, u27, u28, q29, q30, q31, q32, q33, q34, q35, q36, q37, q38, q39, q40, q41, q42, q43, q44, q45, q46, q47, q48, q49, q50, q51, q52, q53, q54, q55, q56, q57, q58, q59, q60, q61, q62, q63, q64, q65, q66, q67, q68, q69, q70, q71, q72, q73, q74, q75, q76, q77, q78, q79, q80, q81, q82, q83, q84, q85, q86, q87, q88, q89, q90, q91, q92, q93, q94, q95, q96, q97, q98, q99, q100, q101, q102, q103, q104, q105, q106, q107, q108, q109, q110, q111, q112, q113, q114, q115, q116, q117, q118, q119, q120, .slice (some ⟨gd, od, none⟩) n2 c2, .int .i64 n2, .int .i64 j, u124, u125, u126, u127, u128, u129, u130, u131, u132, u133, u134, u135, u136, u137, u138, u139, u140, u141, u142, u143, u144, u145, u146, u147, u148, u149, u150, u151, u152, u153, u154, u155, u156, u157, u158, u159, u160, u161, u162, u163, u164, u165, u166, u167, u168, u169, u170, u171, u172, u173, u174, u175, u176, u177, u178, u179, u180, u181, u182, u183, u184, u185, u186, u187, u188, u189, u190, u191, u192, u193, u194, u195, u196, u197, u198, u199, u200, u201, u202, u203, u204, u205, u206, u207, u208, u209, u210, u211, u212, u213, u214, u215, u216, u217, u218, u219, u220, u221, u222, u223, u224, u225, u226, u227, q228, q229, q230, q231, q232, q233, q234, q235, q236, q237, q238, q239, q240, q241, q242, q243, q244, q245, q246, q247, q248, q249, q250, q251, q252, q253, q254, q255, q256], []⟩ wr := by
  rcases (show ka % 2 = 0 ∨ ka % 2 = 1 by omega) with hm | hm
  · rcases (show kb % 3 = 0 ∨ kb % 3 = 1 ∨ kb % 3 = 2 by omega) with hq | hq | hq
    · exact todo_tick0 W A3 n3 c3 x3 n2 c2 gd od q0 q1 q2 q4 q5 q6 q7 q13 q14 q15 q16 q17 q18 q19 q20 q21 q22 q23 q29 q30 q31 q32 q33 q34 q35 q36 q37 q38 q39 q40 q41 q42 q43 q44 q45 q46 q47 q48 q49 q50 q51 q52 q53 q54 q55 q56 q57 q58 q59 q60 q61 q62 q63 q64 q65 q66 q67 q68 q69 q70 q71 q72 q73 q74 q75 q76 q77 q78 q79 q80 q81 q82 q83 q84 q85 q86 q87 q88 q89 q90 q91 q92 q93 q94 q95 q96 q97 q98 q99 q100 q101 q102 q103 q104 q105 q106 q107 q108 q109 q110 q111 q112 q113 q114 q115 q116 q117 q118 q119 q120 q228 q229 q230 q231 q232 q233 q234 q235 q236 q237 q238 q239 q240 q241 q242 q243 q244 q245 q246 q247 q248 q249 q250 q251 q252 q253 q254 q255 q256 u8 u24 u25 u26 u27 u28 u124 u125 u126 u127 u128 u129 u130 u131 u132 u133 u134 u135 u136 u137 u138 u139 u140 u141 u142 u143 u144 u145 u146 u147 u148 u149 u150 u151 u152 u153 u154 u155 u156 u157 u158 u159 u160 u161 u162 u163 u164 u165 u166 u167 u168 u169 u170 u171 u172 u173 u174 u175 u176 u177 u178 u179 u180 u181 u182 u183 u184 u185 u186 u187 u188 u189 u190 u191 u192 u193 u194 u195 u196 u197 u198 u199 u200 u201 u202 u203 u204 u205 u206 u207 u208 u209 u210 u211 u212 u213 u214 u215 u216 u217 u218 u219 u220 u221 u222 u223 u224 u225 u226 u227 wr j ka kb kc S v l E K Q HL3 HN3 HJA g2 g3 hlt h256 e0 e1 e2 HB hD hm hq HNX
    · by_cases hpos : 0 < (l 5).length
      · exact todo_take0 W A3 n3 c3 x3 n2 c2 gd od q0 q1 q2 q4 q5 q6 q7 q13 q14 q15 q16 q17 q18 q19 q20 q21 q22 q23 q29 q30 q31 q32 q33 q34 q35 q36 q37 q38 q39 q40 q41 q42 q43 q44 q45 q46 q47 q48 q49 q50 q51 q52 q53 q54 q55 q56 q57 q58 q59 q60 q61 q62 q63 q64 q65 q66 q67 q68 q69 q70 q71 q72 q73 q74 q75 q76 q77 q78 q79 q80 q81 q82 q83 q84 q85 q86 q87 q88 q89 q90 q91 q92 q93 q94 q95 q96 q97 q98 q99 q100 q101 q102 q103 q104 q105 q106 q107 q108 q109 q110 q111 q112 q113 q114 q115 q116 q117 q118 q119 q120 q228 q229 q230 q231 q232 q233 q234 q235 q236 q237 q238 q239 q240 q241 q242 q243 q244 q245 q246 q247 q248 q249 q250 q251 q252 q253 q254 q255 q256 u8 u24 u25 u26 u27 u28 u124 u125 u126 u127 u128 u129 u130 u131 u132 u133 u134 u135 u136 u137 u138 u139 u140 u141 u142 u143 u144 u145 u146 u147 u148 u149 u150 u151 u152 u153 u154 u155 u156 u157 u158 u159 u160 u161 u162 u163 u164 u165 u166 u167 u168 u169 u170 u171 u172 u173 u174 u175 u176 u177 u178 u179 u180 u181 u182 u183 u184 u185 u186 u187 u188 u189 u190 u191 u192 u193 u194 u195 u196 u197 u198 u199 u200 u201 u202 u203 u204 u205 u206 u207 u208 u209 u210 u211 u212 u213 u214 u215 u216 u217 u218 u219 u220 u221 u222 u223 u224 u225 u226 u227 wr j ka kb kc S v l E K Q HL3 HN3 HJA g2 g3 hlt h256 e0 e1 e2 HB hD hm hq hpos HNX
      · exact todo_none0 W A3 n3 c3 x3 n2 c2 gd od q0 q1 q2 q4 q5 q6 q7 q13 q14 q15 q16 q17 q18 q19 q20 q21 q22 q23 q29 q30 q31 q32 q33 q34 q35 q36 q37 q38 q39 q40 q41 q42 q43 q44 q45 q46 q47 q48 q49 q50 q51 q52 q53 q54 q55 q56 q57 q58 q59 q60 q61 q62 q63 q64 q65 q66 q67 q68 q69 q70 q71 q72 q73 q74 q75 q76 q77 q78 q79 q80 q81 q82 q83 q84 q85 q86 q87 q88 q89 q90 q91 q92 q93 q94 q95 q96 q97 q98 q99 q100 q101 q102 q103 q104 q105 q106 q107 q108 q109 q110 q111 q112 q113 q114 q115 q116 q117 q118 q119 q120 q228 q229 q230 q231 q232 q233 q234 q235 q236 q237 q238 q239 q240 q241 q242 q243 q244 q245 q246 q247 q248 q249 q250 q251 q252 q253 q254 q255 q256 u8 u24 u25 u26 u27 u28 u124 u125 u126 u127 u128 u129 u130 u131 u132 u133 u134 u135 u136 u137 u138 u139 u140 u141 u142 u143 u144 u145 u146 u147 u148 u149 u150 u151 u152 u153 u154 u155 u156 u157 u158 u159 u160 u161 u162 u163 u164 u165 u166 u167 u168 u169 u170 u171 u172 u173 u174 u175 u176 u177 u178 u179 u180 u181 u182 u183 u184 u185 u186 u187 u188 u189 u190 u191 u192 u193 u194 u195 u196 u197 u198 u199 u200 u201 u202 u203 u204 u205 u206 u207 u208 u209 u210 u211 u212 u213 u214 u215 u216 u217 u218 u219 u220 u221 u222 u223 u224 u225 u226 u227 wr j ka kb kc S v l E K Q HL3 HN3 HJA g2 g3 hlt h256 e0 e1 e2 HB hD hm hq hpos HNX
    · exact todo_junk0 W A3 n3 c3 x3 n2 c2 gd od q0 q1 q2 q4 q5 q6 q7 q13 q14 q15 q16 q17 q18 q19 q20 q21 q22 q23 q29 q30 q31 q32 q33 q34 q35 q36 q37 q38 q39 q40 q41 q42 q43 q44 q45 q46 q47 q48 q49 q50 q51 q52 q53 q54 q55 q56 q57 q58 q59 q60 q61 q62 q63 q64 q65 q66 q67 q68 q69 q70 q71 q72 q73 q74 q75 q76 q77 q78 q79 q80 q81 q82 q83 q84 q85 q86 q87 q88 q89 q90 q91 q92 q93 q94 q95 q96 q97 q98 q99 q100 q101 q102 q103 q104 q105 q106 q107 q108 q109 q110 q111 q112 q113 q114 q115 q116 q117 q118 q119 q120 q228 q229 q230 q231 q232 q233 q234 q235 q236 q237 q238 q239 q240 q241 q242 q243 q244 q245 q246 q247 q248 q249 q250 q251 q252 q253 q254 q255 q256 u8 u24 u25 u26 u27 u28 u124 u125 u126 u127 u128 u129 u130 u131 u132 u133 u134 u135 u136 u137 u138 u139 u140 u141 u142 u143 u144 u145 u146 u147 u148 u149 u150 u151 u152 u153 u154 u155 u156 u157 u158 u159 u160 u161 u162 u163 u164 u165 u166 u167 u168 u169 u170 u171 u172 u173 u174 u175 u176 u177 u178 u179 u180 u181 u182 u183 u184 u185 u186 u187 u188 u189 u190 u191 u192 u193 u194 u195 u196 u197 u198 u199 u200 u201 u202 u203 u204 u205 u206 u207 u208 u209 u210 u211 u212 u213 u214 u215 u216 u217 u218 u219 u220 u221 u222 u223 u224 u225 u226 u227 wr j ka kb kc S v l E K Q HL3 HN3 HJA g2 g3 hlt h256 e0 e1 e2 HB hD hm hq HNX
  · rcases (show kb % 3 = 0 ∨ kb % 3 = 1 ∨ kb % 3 = 2 by omega) with hq | hq | hq
    · exact todo_tick1 W A3 n3 c3 x3 n2 c2 gd od q0 q1 q2 q4 q5 q6 q7 q13 q14 q15 q16 q17 q18 q19 q20 q21 q22 q23 q29 q30 q31 q32 q33 q34 q35 q36 q37 q38 q39 q40 q41 q42 q43 q44 q45 q46 q47 q48 q49 q50 q51 q52 q53 q54 q55 q56 q57 q58 q59 q60 q61 q62 q63 q64 q65 q66 q67 q68 q69 q70 q71 q72 q73 q74 q75 q76 q77 q78 q79 q80 q81 q82 q83 q84 q85 q86 q87 q88 q89 q90 q91 q92 q93 q94 q95 q96 q97 q98 q99 q100 q101 q102 q103 q104 q105 q106 q107 q108 q109 q110 q111 q112 q113 q114 q115 q116 q117 q118 q119 q120 q228 q229 q230 q231 q232 q233 q234 q235 q236 q237 q238 q239 q240 q241 q242 q243 q244 q245 q246 q247 q248 q249 q250 q251 q252 q253 q254 q255 q256 u8 u24 u25 u26 u27 u28 u124 u125 u126 u127 u128 u129 u130 u131 u132 u133 u134 u135 u136 u137 u138 u139 u140 u141 u142 u143 u144 u145 u146 u147 u148 u149 u150 u151 u152 u153 u154 u155 u156 u157 u158 u159 u160 u161 u162 u163 u164 u165 u166 u167 u168 u169 u170 u171 u172 u173 u174 u175 u176 u177 u178 u179 u180 u181 u182 u183 u184 u185 u186 u187 u188 u189 u190 u191 u192 u193 u194 u195 u196 u197 u198 u199 u200 u201 u202 u203 u204 u205 u206 u207 u208 u209 u210 u211 u212 u213 u214 u215 u216 u217 u218 u219 u220 u221 u222 u223 u224 u225 u226 u227 wr j ka kb kc S v l E K Q HL3 HN3 HJA g2 g3 hlt h256 e0 e1 e2 HB hD hm hq HNX
    · by_cases hpos : 0 < (l 4).length
      · exact todo_take1 W A3 n3 c3 x3 n2 c2 gd od q0 q1 q2 q4 q5 q6 q7 q13 q14 q15 q16 q17 q18 q19 q20 q21 q22 q23 q29 q30 q31 q32 q33 q34 q35 q36 q37 q38 q39 q40 q41 q42 q43 q44 q45 q46 q47 q48 q49 q50 q51 q52 q53 q54 q55 q56 q57 q58 q59 q60 q61 q62 q63 q64 q65 q66 q67 q68 q69 q70 q71 q72 q73 q74 q75 q76 q77 q78 q79 q80 q81 q82 q83 q84 q85 q86 q87 q88 q89 q90 q91 q92 q93 q94 q95 q96 q97 q98 q99 q100 q101 q102 q103 q104 q105 q106 q107 q108 q109 q110 q111 q112 q113 q114 q115 q116 q117 q118 q119 q120 q228 q229 q230 q231 q232 q233 q234 q235 q236 q237 q238 q239 q240 q241 q242 q243 q244 q245 q246 q247 q248 q249 q250 q251 q252 q253 q254 q255 q256 u8 u24 u25 u26 u27 u28 u124 u125 u126 u127 u128 u129 u130 u131 u132 u133 u134 u135 u136 u137 u138 u139 u140 u141 u142 u143 u144 u145 u146 u147 u148 u149 u150 u151 u152 u153 u154 u155 u156 u157 u158 u159 u160 u161 u162 u163 u164 u165 u166 u167 u168 u169 u170 u171 u172 u173 u174 u175 u176 u177 u178 u179 u180 u181 u182 u183 u184 u185 u186 u187 u188 u189 u190 u191 u192 u193 u194 u195 u196 u197 u198 u199 u200 u201 u202 u203 u204 u205 u206 u207 u208 u209 u210 u211 u212 u213 u214 u215 u216 u217 u218 u219 u220 u221 u222 u223 u224 u225 u226 u227 wr j ka kb kc S v l E K Q HL3 HN3 HJA g2 g3 hlt h256 e0 e1 e2 HB hD hm hq hpos HNX
      · exact todo_none1 W A3 n3 c3 x3 n2 c2 gd od q0 q1 q2 q4 q5 q6 q7 q13 q14 q15 q16 q17 q18 q19 q20 q21 q22 q23 q29 q30 q31 q32 q33 q34 q35 q36 q37 q38 q39 q40 q41 q42 q43 q44 q45 q46 q47 q48 q49 q50 q51 q52 q53 q54 q55 q56 q57 q58 q59 q60 q61 q62 q63 q64 q65 q66 q67 q68 q69 q70 q71 q72 q73 q74 q75 q76 q77 q78 q79 q80 q81 q82 q83 q84 q85 q86 q87 q88 q89 q90 q91 q92 q93 q94 q95 q96 q97 q98 q99 q100 q101 q102 q103 q104 q105 q106 q107 q108 q109 q110 q111 q112 q113 q114 q115 q116 q117 q118 q119 q120 q228 q229 q230 q231 q232 q233 q234 q235 q236 q237 q238 q239 q240 q241 q242 q243 q244 q245 q246 q247 q248 q249 q250 q251 q252 q253 q254 q255 q256 u8 u24 u25 u26 u27 u28 u124 u125 u126 u127 u128 u129 u130 u131 u132 u133 u134 u135 u136 u137 u138 u139 u140 u141 u142 u143 u144 u145 u146 u147 u148 u149 u150 u151 u152 u153 u154 u155 u156 u157 u158 u159 u160 u161 u162 u163 u164 u165 u166 u167 u168 u169 u170 u171 u172 u173 u174 u175 u176 u177 u178 u179 u180 u181 u182 u183 u184 u185 u186 u187 u188 u189 u190 u191 u192 u193 u194 u195 u196 u197 u198 u199 u200 u201 u202 u203 u204 u205 u206 u207 u208 u209 u210 u211 u212 u213 u214 u215 u216 u217 u218 u219 u220 u221 u222 u223 u224 u225 u226 u227 wr j ka kb kc S v l E K Q HL3 HN3 HJA g2 g3 hlt h256 e0 e1 e2 HB hD hm hq hpos HNX
    · exact todo_junk1 W A3 n3 c3 x3 n2 c2 gd od q0 q1 q2 q4 q5 q6 q7 q13 q14 q15 q16 q17 q18 q19 q20 q21 q22 q23 q29 q30 q31 q32 q33 q34 q35 q36 q37 q38 q39 q40 q41 q42 q43 q44 q45 q46 q47 q48 q49 q50 q51 q52 q53 q54 q55 q56 q57 q58 q59 q60 q61 q62 q63 q64 q65 q66 q67 q68 q69 q70 q71 q72 q73 q74 q75 q76 q77 q78 q79 q80 q81 q82 q83 q84 q85 q86 q87 q88 q89 q90 q91 q92 q93 q94 q95 q96 q97 q98 q99 q100 q101 q102 q103 q104 q105 q106 q107 q108 q109 q110 q111 q112 q113 q114 q115 q116 q117 q118 q119 q120 q228 q229 q230 q231 q232 q233 q234 q235 q236 q237 q238 q239 q240 q241 q242 q243 q244 q245 q246 q247 q248 q249 q250 q251 q252 q253 q254 q255 q256 u8 u24 u25 u26 u27 u28 u124 u125 u126 u127 u128 u129 u130 u131 u132 u133 u134 u135 u136 u137 u138 u139 u140 u141 u142 u143 u144 u145 u146 u147 u148 u149 u150 u151 u152 u153 u154 u155 u156 u157 u158 u159 u160 u161 u162 u163 u164 u165 u166 u167 u168 u169 u170 u171 u172 u173 u174 u175 u176 u177 u178 u179 u180 u181 u182 u183 u184 u185 u186 u187 u188 u189 u190 u191 u192 u193 u194 u195 u196 u197 u198 u199 u200 u201 u202 u203 u204 u205 u206 u207 u208 u209 u210 u211 u212 u213 u214 u215 u216 u217 u218 u219 u220 u221 u222 u223 u224 u225 u226 u227 wr j ka kb kc S v l E K Q HL3 HN3 HJA g2 g3 hlt h256 e0 e1 e2 HB hD hm hq HNX
set_option maxRecDepth 100000 in
set_option maxHeartbeats 16000000 in
theorem linkOrders_ok (W : World) (A0 : Option Addr) (n0 c0 : Nat) (x0 : List ByteArray) (w0 : Sl W A0 n0 c0 1 (x0.flatMap EStr) ∧ x0.length = n0 ∧ (A0 = none → c0 = 0) ∧ ∀ y ∈ x0, y.size ≤ 140737488351232) (A1 : Option Addr) (n1 c1 : Nat) (x1 : List ByteArray) (w1 : Sl W A1 n1 c1 1 (x1.flatMap EStr) ∧ x1.length = n1 ∧ (A1 = none → c1 = 0) ∧ ∀ y ∈ x1, y.size ≤ 140737488351232) (A2 : Option Addr) (n2 c2 : Nat) (x2 : List (UInt8 × UInt8 × UInt8)) (w2 : Sl W A2 n2 c2 3 (x2.flatMap (ES3 EU8 EU8 EU8)) ∧ x2.length = n2 ∧ (A2 = none → c2 = 0)) (A3 : Option Addr) (n3 c3 : Nat) (x3 : List ByteArray) (w3 : Sl W A3 n3 c3 1 (x3.flatMap EStr) ∧ x3.length = n3 ∧ (A3 = none → c3 = 0) ∧ ∀ y ∈ x3, y.size ≤ 140737488351232) :
  Calls Try.prog 4 #[.slice A0 n0 c0, .slice A1 n1 c1, .slice A2 n2 c2, .slice A3 n3 c3] W fun e w' => e = .returned (.bool true) ∧ Below W.heap.size W w' := by
 have HOP := Lib.hid (lopen_any 7)
 have HAW := Lib.hid awake_any
 have HL0 : Hid (StrsN W (.slice A0 n0 c0) x0) := StrsN.of_sl w0.1 w0.2.1 w0.2.2.1
 have HN0 := Lib.hid w0.2.1
 have HZ0 := Lib.hid w0.2.2.2
 have HL1 : Hid (StrsN W (.slice A1 n1 c1) x1) := StrsN.of_sl w1.1 w1.2.1 w1.2.2.1
 have HN1 := Lib.hid w1.2.1
 have HZ1 := Lib.hid w1.2.2.2
 have HL3 : Hid (StrsN W (.slice A3 n3 c3) x3) := StrsN.of_sl w3.1 w3.2.1 w3.2.2.1
 have HN3 := Lib.hid w3.2.1
 have HZ3 := Lib.hid w3.2.2.2
 have HL2 := Lib.hid w2
 clear w0 w1 w2 w3
 go_enter Try.func4, Try.ntmps4
 by_cases g0 : n0 ≤ 30
 case neg =>
  have d0 : decide ((30 : Int) < (n0 : Int)) = true := by simp; omega
  go_wp2_with fail
  refine (HAW.out _).mono ?_
  rintro e w' ⟨rfl, hb⟩
  clear HOP HAW HL0 HN0 HZ0 HL1 HN1 HZ1 HL3 HN3 HZ3 HL2
  go_wp2_with fail
  go_ret
  exact ⟨rfl, hb⟩
 have d0 : decide ((30 : Int) < (n0 : Int)) = false := by simp; omega
 by_cases g1 : n1 ≤ 30
 case neg =>
  have d1 : decide ((30 : Int) < (n1 : Int)) = true := by simp; omega
  go_wp2_with fail
  refine (HAW.out _).mono ?_
  rintro e w' ⟨rfl, hb⟩
  clear HOP HAW HL0 HN0 HZ0 HL1 HN1 HZ1 HL3 HN3 HZ3 HL2
  go_wp2_with fail
  go_ret
  exact ⟨rfl, hb⟩
 have d1 : decide ((30 : Int) < (n1 : Int)) = false := by simp; omega
 by_cases g2 : n2 ≤ 120
 case neg =>
  have d2 : decide ((120 : Int) < (n2 : Int)) = true := by simp; omega
  go_wp2_with fail
  refine (HAW.out _).mono ?_
  rintro e w' ⟨rfl, hb⟩
  clear HOP HAW HL0 HN0 HZ0 HL1 HN1 HZ1 HL3 HN3 HZ3 HL2
  go_wp2_with fail
  go_ret
  exact ⟨rfl, hb⟩
 have d2 : decide ((120 : Int) < (n2 : Int)) = false := by simp; omega
 by_cases g3 : n3 ≤ 20
 case neg =>
  have d3 : decide ((20 : Int) < (n3 : Int)) = true := by simp; omega
  go_wp2_with fail
  refine (HAW.out _).mono ?_
  rintro e w' ⟨rfl, hb⟩
  clear HOP HAW HL0 HN0 HZ0 HL1 HN1 HZ1 HL3 HN3 HZ3 HL2
  go_wp2_with fail
  go_ret
  exact ⟨rfl, hb⟩
 have d3 : decide ((20 : Int) < (n3 : Int)) = false := by simp; omega
 go_wp2_with fail
 clear d0 d1 d2 d3
 have q0 := World.alloc_heap_new W (.cells #[.int .u64 0, .int .i64 0, .slice none 0 0, .slice none 0 0, .int .i64 0, .slice none 0 0, .int .i64 0, .bool false, .int .u64 0, .int .i64 0, .slice none 0 0, .slice none 0 0, .int .i64 0, .slice none 0 0, .int .i64 0, .bool false] 38)
 obtain ⟨wa, hwa⟩ : ∃ x, x = W.alloc (.cells #[.int .u64 0, .int .i64 0, .slice none 0 0, .slice none 0 0, .int .i64 0, .slice none 0 0, .int .i64 0, .bool false, .int .u64 0, .int .i64 0, .slice none 0 0, .slice none 0 0, .int .i64 0, .slice none 0 0, .int .i64 0, .bool false] 38) := ⟨_, rfl⟩
 rw [← hwa] at q0 ⊢
 have hba : Below W.heap.size W wa := by rw [hwa]; exact (Below.refl _ _).alloc (Nat.le_refl _) _
 have hsa : wa.heap.size = W.heap.size + 1 := by rw [hwa]; simp
 clear hwa
 have q1 := World.alloc_heap_new wa (.cells #[.slice none 0 0, .slice none 0 0] 39)
 obtain ⟨wb, hwb⟩ : ∃ x, x = wa.alloc (.cells #[.slice none 0 0, .slice none 0 0] 39) := ⟨_, rfl⟩
 rw [← hwb, hsa] at q1
 rw [← hwb]
 have hbb : Below wa.heap.size wa wb := by rw [hwb]; exact (Below.refl _ _).alloc (Nat.le_refl _) _
 have hsb : wb.heap.size = W.heap.size + 1 + 1 := by rw [hwb]; simp [hsa]
 clear hwb
 have q2 := World.alloc_heap_new wb (.cells #[.slice none 0 0, .slice none 0 0] 39)
 obtain ⟨wc, hwc⟩ : ∃ x, x = wb.alloc (.cells #[.slice none 0 0, .slice none 0 0] 39) := ⟨_, rfl⟩
 rw [← hwc, hsb] at q2
 rw [← hwc]
 have hbc : Below wb.heap.size wb wc := by rw [hwc]; exact (Below.refl _ _).alloc (Nat.le_refl _) _
 have hsc : wc.heap.size = W.heap.size + 1 + 1 + 1 := by rw [hwc]; simp [hsb]
 clear hwc
 have q3 := World.alloc_heap_new wc (.cells #[.slice none 0 0, .slice none 0 0] 39)
 obtain ⟨wd, hwd⟩ : ∃ x, x = wc.alloc (.cells #[.slice none 0 0, .slice none 0 0] 39) := ⟨_, rfl⟩
 rw [← hwd, hsc] at q3
 rw [← hwd]
 have hbd : Below wc.heap.size wc wd := by rw [hwd]; exact (Below.refl _ _).alloc (Nat.le_refl _) _
 have hsd : wd.heap.size = W.heap.size + 1 + 1 + 1 + 1 := by rw [hwd]; simp [hsc]
 clear hwd
 have HQ0 := Lib.hid ((hbd.block _ (by omega)).trans ((hbc.block _ (by omega)).trans ((hbb.block _ (by omega)).trans q0)))
 have HQ1 := Lib.hid ((hbd.block _ (by omega)).trans ((hbc.block _ (by omega)).trans q1))
 have HQ2 := Lib.hid ((hbd.block _ (by omega)).trans q2)
 have HQ3 := Lib.hid q3
 have HBD := Lib.hid (((hba.trans (hbb.mono (by omega))).trans (hbc.mono (by omega))).trans (hbd.mono (by omega)))
 clear q0 q1 q2 q3 hba hbb hbc hbd hsa hsb hsc
 refine (HOP.out wd).mono ?_
 rintro e we ⟨rfl, be⟩
 go_wp2_with fail
 refine (HOP.out we).mono ?_
 rintro e wf ⟨rfl, bf⟩
 unfold End8
 have hsf : W.heap.size + 1 + 1 + 1 + 1 ≤ wf.heap.size := by have := be.size; have := bf.size; omega
 have HBF := Lib.hid (HBD.out.trans ((be.mono (by omega)).trans (bf.mono (by have := be.size; omega))))
 have HR0 := Lib.hid ((bf.block _ (by have := be.size; omega)).trans ((be.block _ (by omega)).trans HQ0.out))
 have HR1 := Lib.hid ((bf.block _ (by have := be.size; omega)).trans ((be.block _ (by omega)).trans HQ1.out))
 have HR2 := Lib.hid ((bf.block _ (by have := be.size; omega)).trans ((be.block _ (by omega)).trans HQ2.out))
 have HR3 := Lib.hid ((bf.block _ (by have := be.size; omega)).trans ((be.block _ (by omega)).trans HQ3.out))
 clear be bf HQ0 HQ1 HQ2 HQ3 HBD hsd HOP
 have k0 : wf.cell? ⟨W.heap.size, 0, none⟩ = some (.int .u64 0) := cells_at HR0.out 0
 have f0 : wf.frozen? ⟨W.heap.size, 0, none⟩ = false := frozen_of_row _ _ _ _ _ HR0.out
 have k1 : wf.cell? ⟨W.heap.size, 1, none⟩ = some (.int .i64 0) := cells_at HR0.out 1
 have f1 : wf.frozen? ⟨W.heap.size, 1, none⟩ = false := frozen_of_row _ _ _ _ _ HR0.out
 have k2 : wf.cell? ⟨W.heap.size, 2, none⟩ = some (.slice none 0 0) := cells_at HR0.out 2
 have f2 : wf.frozen? ⟨W.heap.size, 2, none⟩ = false := frozen_of_row _ _ _ _ _ HR0.out
 have k3 : wf.cell? ⟨W.heap.size, 3, none⟩ = some (.slice none 0 0) := cells_at HR0.out 3
 have f3 : wf.frozen? ⟨W.heap.size, 3, none⟩ = false := frozen_of_row _ _ _ _ _ HR0.out
 have k4 : wf.cell? ⟨W.heap.size, 4, none⟩ = some (.int .i64 0) := cells_at HR0.out 4
 have f4 : wf.frozen? ⟨W.heap.size, 4, none⟩ = false := frozen_of_row _ _ _ _ _ HR0.out
 have k5 : wf.cell? ⟨W.heap.size, 5, none⟩ = some (.slice none 0 0) := cells_at HR0.out 5
 have f5 : wf.frozen? ⟨W.heap.size, 5, none⟩ = false := frozen_of_row _ _ _ _ _ HR0.out
 have k6 : wf.cell? ⟨W.heap.size, 6, none⟩ = some (.int .i64 0) := cells_at HR0.out 6
 have f6 : wf.frozen? ⟨W.heap.size, 6, none⟩ = false := frozen_of_row _ _ _ _ _ HR0.out
 have k7 : wf.cell? ⟨W.heap.size, 7, none⟩ = some (.bool false) := cells_at HR0.out 7
 have f7 : wf.frozen? ⟨W.heap.size, 7, none⟩ = false := frozen_of_row _ _ _ _ _ HR0.out
 have k8 : wf.cell? ⟨W.heap.size, 8, none⟩ = some (.int .u64 0) := cells_at HR0.out 8
 have f8 : wf.frozen? ⟨W.heap.size, 8, none⟩ = false := frozen_of_row _ _ _ _ _ HR0.out
 have k9 : wf.cell? ⟨W.heap.size, 9, none⟩ = some (.int .i64 0) := cells_at HR0.out 9
 have f9 : wf.frozen? ⟨W.heap.size, 9, none⟩ = false := frozen_of_row _ _ _ _ _ HR0.out
 have k10 : wf.cell? ⟨W.heap.size, 10, none⟩ = some (.slice none 0 0) := cells_at HR0.out 10
 have f10 : wf.frozen? ⟨W.heap.size, 10, none⟩ = false := frozen_of_row _ _ _ _ _ HR0.out
 have k11 : wf.cell? ⟨W.heap.size, 11, none⟩ = some (.slice none 0 0) := cells_at HR0.out 11
 have f11 : wf.frozen? ⟨W.heap.size, 11, none⟩ = false := frozen_of_row _ _ _ _ _ HR0.out
 have k12 : wf.cell? ⟨W.heap.size, 12, none⟩ = some (.int .i64 0) := cells_at HR0.out 12
 have f12 : wf.frozen? ⟨W.heap.size, 12, none⟩ = false := frozen_of_row _ _ _ _ _ HR0.out
 have k13 : wf.cell? ⟨W.heap.size, 13, none⟩ = some (.slice none 0 0) := cells_at HR0.out 13
 have f13 : wf.frozen? ⟨W.heap.size, 13, none⟩ = false := frozen_of_row _ _ _ _ _ HR0.out
 have k14 : wf.cell? ⟨W.heap.size, 14, none⟩ = some (.int .i64 0) := cells_at HR0.out 14
 have f14 : wf.frozen? ⟨W.heap.size, 14, none⟩ = false := frozen_of_row _ _ _ _ _ HR0.out
 have k15 : wf.cell? ⟨W.heap.size, 15, none⟩ = some (.bool false) := cells_at HR0.out 15
 have f15 : wf.frozen? ⟨W.heap.size, 15, none⟩ = false := frozen_of_row _ _ _ _ _ HR0.out
 go_wp2_with fail
 have hA : C8 W.heap.size 0 (.int .u64 0) (.int .i64 0) (.slice none 0 0) (.slice none 0 0) (.int .i64 0) (.slice none 0 0) (.int .i64 0) (.bool false) wf := ⟨k0, k1, k2, k3, k4, k5, k6, k7⟩
 have hB : C8 W.heap.size 8 (.int .u64 0) (.int .i64 0) (.slice none 0 0) (.slice none 0 0) (.int .i64 0) (.slice none 0 0) (.int .i64 0) (.bool false) wf := ⟨k8, k9, k10, k11, k12, k13, k14, k15⟩
 clear k0 k1 k2 k3 k4 k5 k6 k7 k8 k9 k10 k11 k12 k13 k14 k15 f0 f1 f2 f3 f4 f5 f6 f7 f8 f9 f10 f11 f12 f13 f14 f15
 obtain ⟨wg, hwg⟩ : ∃ x, x = ((((((((((((((((wf.setCell ⟨W.heap.size, 0, none⟩ (.int .u64 7)).setCell ⟨W.heap.size, 1, none⟩ (.int .i64 0)).setCell ⟨W.heap.size, 2, none⟩ (.slice none 0 0)).setCell ⟨W.heap.size, 3, none⟩ (.slice none 0 0)).setCell ⟨W.heap.size, 4, none⟩ (.int .i64 0)).setCell ⟨W.heap.size, 5, none⟩ (.slice none 0 0)).setCell ⟨W.heap.size, 6, none⟩ (.int .i64 0)).setCell ⟨W.heap.size, 7, none⟩ (.bool false)).setCell ⟨W.heap.size, 8, none⟩ (.int .u64 7)).setCell ⟨W.heap.size, 9, none⟩ (.int .i64 0)).setCell ⟨W.heap.size, 10, none⟩ (.slice none 0 0)).setCell ⟨W.heap.size, 11, none⟩ (.slice none 0 0)).setCell ⟨W.heap.size, 12, none⟩ (.int .i64 0)).setCell ⟨W.heap.size, 13, none⟩ (.slice none 0 0)).setCell ⟨W.heap.size, 14, none⟩ (.int .i64 0)).setCell ⟨W.heap.size, 15, none⟩ (.bool false)) := ⟨_, rfl⟩
 rw [← hwg]
 have hA2 : C8 W.heap.size 0 (.int .u64 7) (.int .i64 0) (.slice none 0 0) (.slice none 0 0) (.int .i64 0) (.slice none 0 0) (.int .i64 0) (.bool false) wg := by
  rw [hwg]
  exact (hA.set (.int .u64 7) (.int .i64 0) (.slice none 0 0) (.slice none 0 0) (.int .i64 0) (.slice none 0 0) (.int .i64 0) (.bool false)).cell (fun k hk => cell_set8 (o := 8) (.int .u64 7) (.int .i64 0) (.slice none 0 0) (.slice none 0 0) (.int .i64 0) (.slice none 0 0) (.int .i64 0) (.bool false) (fun k' hk' e => by injection e with _ e; omega))
 have hB2 : C8 W.heap.size 8 (.int .u64 7) (.int .i64 0) (.slice none 0 0) (.slice none 0 0) (.int .i64 0) (.slice none 0 0) (.int .i64 0) (.bool false) wg := by
  rw [hwg]
  exact C8.set (hB.cell (fun k hk => cell_set8 (o := 0) (.int .u64 7) (.int .i64 0) (.slice none 0 0) (.slice none 0 0) (.int .i64 0) (.slice none 0 0) (.int .i64 0) (.bool false) (fun k' hk' e => by injection e with _ e; omega))) (.int .u64 7) (.int .i64 0) (.slice none 0 0) (.slice none 0 0) (.int .i64 0) (.slice none 0 0) (.int .i64 0) (.bool false)
 have hrow : ∀ r i, r < 3 → i < 2 → wg.cell? ⟨W.heap.size + 1 + r, i, none⟩ = some (.slice none 0 0) := by
  intro r i hr hi
  rw [hwg]
  refine (cell_set8 (o := 8) (.int .u64 7) (.int .i64 0) (.slice none 0 0) (.slice none 0 0) (.int .i64 0) (.slice none 0 0) (.int .i64 0) (.bool false) (fun k' hk' e => by injection e with e _; omega)).trans ((cell_set8 (o := 0) (.int .u64 7) (.int .i64 0) (.slice none 0 0) (.slice none 0 0) (.int .i64 0) (.slice none 0 0) (.int .i64 0) (.bool false) (fun k' hk' e => by injection e with e _; omega)).trans ?_)
  have hi2 : i = 0 ∨ i = 1 := by omega
  have hr3 : r = 0 ∨ r = 1 ∨ r = 2 := by omega
  rcases hr3 with rfl | rfl | rfl <;> rcases hi2 with rfl | rfl
  · exact cells_at HR1.out 0
  · exact cells_at HR1.out 1
  · exact cells_at HR2.out 0
  · exact cells_at HR2.out 1
  · exact cells_at HR3.out 0
  · exact cells_at HR3.out 1
 have hfz : ∀ b j, W.heap.size ≤ b → b < W.heap.size + 4 → wg.frozen? ⟨b, j, none⟩ = false := by
  intro b j h1 h2
  rw [hwg]
  simp only [World.frozen?_setCell]
  have hb : b = W.heap.size ∨ b = W.heap.size + 1 ∨ b = W.heap.size + 1 + 1 ∨ b = W.heap.size + 1 + 1 + 1 := by omega
  rcases hb with rfl | rfl | rfl | rfl
  · exact frozen_of_row _ _ _ _ _ HR0.out
  · exact frozen_of_row _ _ _ _ _ HR1.out
  · exact frozen_of_row _ _ _ _ _ HR2.out
  · exact frozen_of_row _ _ _ _ _ HR3.out
 have hgf : wg.heap.size = wf.heap.size := by rw [hwg]; simp only [World.size_setCell]
 have hszg : W.heap.size + 4 ≤ wf.heap.size := by omega
 have HLS := los_init (by omega) hA2 hB2 hrow hfz
 have HBG : Hid (Below W.heap.size W wg) := by
  unfold Hid
  rw [hwg]
  exact below_set8o (below_set8o HBF.out (Nat.le_refl _) 0 (.int .u64 7) (.int .i64 0) (.slice none 0 0) (.slice none 0 0) (.int .i64 0) (.slice none 0 0) (.int .i64 0) (.bool false)) (Nat.le_refl _) 8 (.int .u64 7) (.int .i64 0) (.slice none 0 0) (.slice none 0 0) (.int .i64 0) (.slice none 0 0) (.int .i64 0) (.bool false)
 clear hA hB hA2 hB2 hrow hfz HR0 HR1 HR2 HR3 HBF hsf hwg
 have hsb0 := World.alloc_heap_new wg (.cells #[.slice A0 n0 c0, .slice A1 n1 c1] 33)
 obtain ⟨wh, hwh⟩ : ∃ x, x = wg.alloc (.cells #[.slice A0 n0 c0, .slice A1 n1 c1] 33) := ⟨_, rfl⟩
 rw [← hwh]
 have HSB : Hid (wh.heap[wg.heap.size]? = some (.cells #[.slice A0 n0 c0, .slice A1 n1 c1] 33)) := by unfold Hid; rw [hwh]; exact hsb0
 have hbh : Below wg.heap.size wg wh := by rw [hwh]; exact (Below.refl _ _).alloc (Nat.le_refl _) _
 have hszh : wh.heap.size = wg.heap.size + 1 := by rw [hwh]; simp
 have HPX : Hid (PX W.heap.size 0 0 wg.heap.size wh wh) := by
  refine ⟨_, _, _, _, fun _ => .slice none 0 0, HLS.below hbh, fun i hi => ⟨rfl, rfl⟩, fun i hi => rfl, fun i hi => ⟨by simp, by simp⟩, by simp, fun i hi => rfl, ?_, rfl⟩
  intro b hb
  have hb : wg.heap.size = b := by injection hb
  subst hb
  exact ⟨by omega, by omega, fun i hi e => by cases e⟩
 have HBH := Lib.hid (HBG.out.trans (hbh.mono HBG.out.size))
 obtain ⟨sb, hsb⟩ : ∃ x, x = wf.heap.size := ⟨_, rfl⟩
 rw [hgf, ← hsb] at HPX HSB
 rw [← hsb] at hszg ⊢
 clear hwh hbh hszh HLS HBG hsb hgf hsb0
 clear wg
 go_loopw [58] (fun i wr => ∃ k : Nat, k ≤ 2 ∧ i = .int .i64 k ∧ Hid (PX W.heap.size k 0 sb wh wr) ∧ Hid (Below W.heap.size W wr)) (fun i _ => 2 - (intOf i).toNat)
 case atStart => exact ⟨0, by decide, rfl, HPX, HBH⟩
 case round =>
  obtain ⟨k, hk, rfl, HP, HB⟩ := hrel
  clear HPX HBH
  have hk3 : k = 0 ∨ k = 1 ∨ k = 2 := by omega
  rcases hk3 with rfl | rfl | rfl
  ·
   have e1 : wr.cell? ⟨sb, 0, none⟩ = some (.slice A0 n0 c0) := by
    obtain ⟨S, v, l, E, vw, hP⟩ := HP.out
    exact cells_at (hP.sbk.trans HSB.out) 0
   go_wp2_with fail
   go_loopw [65] (fun i ws => ∃ j : Nat, j ≤ n0 ∧ i = .int .i64 j ∧ Hid (PX W.heap.size 0 j sb wh ws) ∧ Hid (Below W.heap.size W ws)) (fun i _ => n0 - (intOf i).toNat)
   case atStart => exact ⟨0, Nat.zero_le _, rfl, HP, HB⟩
   case round =>
    obtain ⟨j, hj, rfl, HP2, HB2⟩ := hrel
    clear HP HB e1
    by_cases hlt : j < n0
    ·
     have hlt' : (j : Int) < (n0 : Int) := by omega
     have hjx : j < x0.length := by have := HN0.out; omega
     obtain ⟨gb, go, rfl, hgb, hcell⟩ := HL0.out.1.cells (by omega)
     have e1 := (HB2.out.cell (p := ⟨gb, go + j, none⟩) hgb).trans (hcell j hjx)
     generalize x0[j] = t at *
     clear hcell hgb hjx
     by_cases hbig : t.size ≤ 300
     case neg =>
      have d1 : decide ((300 : Int) < (t.size : Int)) = true := by simp; omega
      go_wp2_with fail
      refine (HAW.out _).mono ?_
      rintro e w' ⟨rfl, hb⟩
      have HBZ := Lib.hid (HB2.out.trans (hb.mono HB2.out.size))
      clear hb
      go_wp2_with fail
      go_ret
      exact ⟨rfl, HBZ.out⟩
     have d1 : decide ((300 : Int) < (t.size : Int)) = false := by simp; omega
     obtain ⟨S, v, l, E, vw, hP⟩ := HP2.out
     have hw : StrsN wr (vw 0) (S 0) := by have h := (hP.st.ends 0 (by decide)).w; rw [hP.ini 0 (by decide)] at h; exact h
     obtain ⟨Aw, cw, hvw, _, _⟩ := hw.1.len
     have hS := hP.cur
     obtain ⟨nw, hnw⟩ : ∃ q, q = (S 0).length := ⟨_, rfl⟩
     rw [← hnw] at hvw
     have HVW := Lib.hid hvw
     have HNW := Lib.hid hnw.symm
     have HW := Lib.hid hw
     have HLED := Lib.hid hP.st.led
     have HSZR := Lib.hid hP.st.siz
     clear hw hnw hvw HP2
     obtain ⟨z0, z1, z2, z3, z4, z5, z6, z7⟩ := hP.cel 0 (by decide)
     have k0 : wr.cell? ⟨W.heap.size, 0, none⟩ = some (.int .u64 7) := z0
     have k1 : wr.cell? ⟨W.heap.size, 1, none⟩ = some (.int .i64 0) := z1
     have k2 : wr.cell? ⟨W.heap.size, 2, none⟩ = some (.slice none 0 0) := z2
     have k3 : wr.cell? ⟨W.heap.size, 3, none⟩ = some (.slice Aw nw cw) := by rw [← HVW.out]; exact z3
     have k4 : wr.cell? ⟨W.heap.size, 4, none⟩ = some (.int .i64 0) := z4
     have k5 : wr.cell? ⟨W.heap.size, 5, none⟩ = some (.slice none 0 0) := z5
     have k6 : wr.cell? ⟨W.heap.size, 6, none⟩ = some (.int .i64 0) := z6
     have k7 : wr.cell? ⟨W.heap.size, 7, none⟩ = some (.bool false) := z7
     clear z0 z1 z2 z3 z4 z5 z6 z7
     by_cases ht0 : t = ⟨#[]⟩
     ·
      clear HLED HSZR
      subst ht0
      go_wp2_with fail
      refine (send_no 7 Aw nw cw wr).mono ?_
      rintro e ws ⟨rfl, hb⟩
      have hP1 := hP.below hb
      have HB3 := Lib.hid (HB2.out.trans (hb.mono HB2.out.size))
      clear hb hP k0 k1 k2 k3 k4 k5 k6 k7
      unfold End8
      obtain ⟨z0, z1, z2, z3, z4, z5, z6, z7⟩ := hP1.cel 0 (by decide)
      have k0 : ws.cell? ⟨W.heap.size, 0, none⟩ = some (.int .u64 7) := z0
      have k1 : ws.cell? ⟨W.heap.size, 1, none⟩ = some (.int .i64 0) := z1
      have k2 : ws.cell? ⟨W.heap.size, 2, none⟩ = some (.slice none 0 0) := z2
      have k3 : ws.cell? ⟨W.heap.size, 3, none⟩ = some (.slice Aw nw cw) := by rw [← HVW.out]; exact z3
      have k4 : ws.cell? ⟨W.heap.size, 4, none⟩ = some (.int .i64 0) := z4
      have k5 : ws.cell? ⟨W.heap.size, 5, none⟩ = some (.slice none 0 0) := z5
      have k6 : ws.cell? ⟨W.heap.size, 6, none⟩ = some (.int .i64 0) := z6
      have k7 : ws.cell? ⟨W.heap.size, 7, none⟩ = some (.bool false) := z7
      clear z0 z1 z2 z3 z4 z5 z6 z7
      have f0 : ws.frozen? ⟨W.heap.size, 0, none⟩ = false := hP1.st.fz _ _ (by omega) (by omega)
      have f1 : ws.frozen? ⟨W.heap.size, 1, none⟩ = false := hP1.st.fz _ _ (by omega) (by omega)
      have f2 : ws.frozen? ⟨W.heap.size, 2, none⟩ = false := hP1.st.fz _ _ (by omega) (by omega)
      have f3 : ws.frozen? ⟨W.heap.size, 3, none⟩ = false := hP1.st.fz _ _ (by omega) (by omega)
      have f4 : ws.frozen? ⟨W.heap.size, 4, none⟩ = false := hP1.st.fz _ _ (by omega) (by omega)
      have f5 : ws.frozen? ⟨W.heap.size, 5, none⟩ = false := hP1.st.fz _ _ (by omega) (by omega)
      have f6 : ws.frozen? ⟨W.heap.size, 6, none⟩ = false := hP1.st.fz _ _ (by omega) (by omega)
      have f7 : ws.frozen? ⟨W.heap.size, 7, none⟩ = false := hP1.st.fz _ _ (by omega) (by omega)
      have hN0 : W.heap.size < ws.heap.size := by have := hP1.st.siz; omega
      have hN1 : W.heap.size + 1 < ws.heap.size := by have := hP1.st.siz; omega
      have HP1 := Lib.hid hP1
      clear hP1
      go_wp2_with fail
      refine ⟨?_, ?measure⟩
      (repeat apply Exists.intro)
      refine ⟨?rel, rfl⟩
      case rel =>
       refine ⟨j + 1, by omega, by go_num, ?_, ?_⟩
       ·
        have h := HP1.out.same (by decide)
        rw [HVW.out] at h
        exact ⟨_, _, _, _, _, h.below ((Below.refl _ _).alloc (Nat.le_refl _) _)⟩
       ·
        have h := below_set8o HB3.out (Nat.le_refl _) 0 (.int .u64 7) (.int .i64 0) (.slice none 0 0) (.slice Aw nw cw) (.int .i64 0) (.slice none 0 0) (.int .i64 0) (.bool false)
        exact h.alloc h.size _
      case measure => simp [intOf]; omega
     ·
      go_wp2_with fail
      refine (send_yes 7 _ (S 0) t ht0 (by omega) wr (by rw [← HVW.out]; exact HW.out) (by omega)).mono ?_
      rintro e ws ⟨x, rfl, ho, hb⟩
      have hP1 := hP.below hb
      have HB3 := Lib.hid (HB2.out.trans (hb.mono HB2.out.size))
      clear hb hP k0 k1 k2 k3 k4 k5 k6 k7
      unfold End8
      have hA : Away (W.heap.size + 4) 6 v ws x := fun b hb => by
       have h1 := ho.lt b hb
       refine ⟨by have := HSZR.out; omega, h1.2, fun i hi e => ?_⟩
       have h2 := ((HLED.out.own i hi).lt b e).2
       omega
      have hx := StrsN.of_owns ho
      have hP2 := hP1.store (k := 0) (by decide) (by omega) t hbig x hx hA
      obtain ⟨Ax, cx, hxe, _, _⟩ := hx.1.len
      obtain ⟨nx, hnx⟩ : ∃ q, q = (S 0 ++ [t]).length := ⟨_, rfl⟩
      rw [← hnx] at hxe
      subst hxe
      clear ho hx hA hnx HLED HSZR
      obtain ⟨z0, z1, z2, z3, z4, z5, z6, z7⟩ := hP1.cel 0 (by decide)
      have k0 : ws.cell? ⟨W.heap.size, 0, none⟩ = some (.int .u64 7) := z0
      have k1 : ws.cell? ⟨W.heap.size, 1, none⟩ = some (.int .i64 0) := z1
      have k2 : ws.cell? ⟨W.heap.size, 2, none⟩ = some (.slice none 0 0) := z2
      have k3 : ws.cell? ⟨W.heap.size, 3, none⟩ = some (.slice Aw nw cw) := by rw [← HVW.out]; exact z3
      have k4 : ws.cell? ⟨W.heap.size, 4, none⟩ = some (.int .i64 0) := z4
      have k5 : ws.cell? ⟨W.heap.size, 5, none⟩ = some (.slice none 0 0) := z5
      have k6 : ws.cell? ⟨W.heap.size, 6, none⟩ = some (.int .i64 0) := z6
      have k7 : ws.cell? ⟨W.heap.size, 7, none⟩ = some (.bool false) := z7
      clear z0 z1 z2 z3 z4 z5 z6 z7
      have f0 : ws.frozen? ⟨W.heap.size, 0, none⟩ = false := hP1.st.fz _ _ (by omega) (by omega)
      have f1 : ws.frozen? ⟨W.heap.size, 1, none⟩ = false := hP1.st.fz _ _ (by omega) (by omega)
      have f2 : ws.frozen? ⟨W.heap.size, 2, none⟩ = false := hP1.st.fz _ _ (by omega) (by omega)
      have f3 : ws.frozen? ⟨W.heap.size, 3, none⟩ = false := hP1.st.fz _ _ (by omega) (by omega)
      have f4 : ws.frozen? ⟨W.heap.size, 4, none⟩ = false := hP1.st.fz _ _ (by omega) (by omega)
      have f5 : ws.frozen? ⟨W.heap.size, 5, none⟩ = false := hP1.st.fz _ _ (by omega) (by omega)
      have f6 : ws.frozen? ⟨W.heap.size, 6, none⟩ = false := hP1.st.fz _ _ (by omega) (by omega)
      have f7 : ws.frozen? ⟨W.heap.size, 7, none⟩ = false := hP1.st.fz _ _ (by omega) (by omega)
      have g1 : ws.frozen? ⟨W.heap.size + 1, 0, none⟩ = false := hP1.st.fz _ _ (by omega) (by omega)
      have hch : set8C ws W.heap.size (0 * 8) (.int .u64 7) (.int .i64 0) (.slice none 0 0) (.slice Ax nx cx) (.int .i64 0) (.slice none 0 0) (.int .i64 0) (.bool false) = ((((((((ws.setCell ⟨W.heap.size, 0, none⟩ (.int .u64 7)).setCell ⟨W.heap.size, 1, none⟩ (.int .i64 0)).setCell ⟨W.heap.size, 2, none⟩ (.slice none 0 0)).setCell ⟨W.heap.size, 3, none⟩ (.slice Ax nx cx)).setCell ⟨W.heap.size, 4, none⟩ (.int .i64 0)).setCell ⟨W.heap.size, 5, none⟩ (.slice none 0 0)).setCell ⟨W.heap.size, 6, none⟩ (.int .i64 0)).setCell ⟨W.heap.size, 7, none⟩ (.bool false)) := by simp only [set8C, Nat.zero_mul, Nat.zero_add, Nat.reduceMul, Nat.reduceAdd]
      rw [hch] at hP2
      obtain ⟨wu, hwu⟩ : ∃ q, q = ((((((((ws.setCell ⟨W.heap.size, 0, none⟩ (.int .u64 7)).setCell ⟨W.heap.size, 1, none⟩ (.int .i64 0)).setCell ⟨W.heap.size, 2, none⟩ (.slice none 0 0)).setCell ⟨W.heap.size, 3, none⟩ (.slice Ax nx cx)).setCell ⟨W.heap.size, 4, none⟩ (.int .i64 0)).setCell ⟨W.heap.size, 5, none⟩ (.slice none 0 0)).setCell ⟨W.heap.size, 6, none⟩ (.int .i64 0)).setCell ⟨W.heap.size, 7, none⟩ (.bool false)).alloc (.cells #[.int .u64 7, .int .i64 0, .slice none 0 0, .slice Ax nx cx, .int .i64 0, .slice none 0 0, .int .i64 0, .bool false] 37) := ⟨_, rfl⟩
      have HWU : Hid (((((((((ws.setCell ⟨W.heap.size, 0, none⟩ (.int .u64 7)).setCell ⟨W.heap.size, 1, none⟩ (.int .i64 0)).setCell ⟨W.heap.size, 2, none⟩ (.slice none 0 0)).setCell ⟨W.heap.size, 3, none⟩ (.slice Ax nx cx)).setCell ⟨W.heap.size, 4, none⟩ (.int .i64 0)).setCell ⟨W.heap.size, 5, none⟩ (.slice none 0 0)).setCell ⟨W.heap.size, 6, none⟩ (.int .i64 0)).setCell ⟨W.heap.size, 7, none⟩ (.bool false)).alloc (.cells #[.int .u64 7, .int .i64 0, .slice none 0 0, .slice Ax nx cx, .int .i64 0, .slice none 0 0, .int .i64 0, .bool false] 37) = wu) := hwu.symm
      have hP3 : PHd W.heap.size 0 (j + 1) sb wh S (updV S 0 (S 0 ++ [t])) v l (updV E 0 (initV (.slice Ax nx cx) (S 0 ++ [t]))) (updV vw 0 (.slice Ax nx cx)) wu := by rw [hwu]; exact hP2.below ((Below.refl _ _).alloc (Nat.le_refl _) _)
      have HBU : Hid (Below W.heap.size W wu) := by
       unfold Hid
       rw [hwu]
       have h := below_set8o HB3.out (Nat.le_refl _) 0 (.int .u64 7) (.int .i64 0) (.slice none 0 0) (.slice Ax nx cx) (.int .i64 0) (.slice none 0 0) (.int .i64 0) (.bool false)
       exact h.alloc h.size _
      have hN0 : W.heap.size < ws.heap.size := by have := hP1.st.siz; omega
      have hN1 : W.heap.size + 1 < ws.heap.size := by have := hP1.st.siz; omega
      have r1 : ws.cell? ⟨W.heap.size + 1, 0, none⟩ = some (v 0) := hP1.row 0 0 (by decide) (by decide)
      have HS0 := Lib.hid (hP1.sent 0 (by decide)).1
      have HP3 := Lib.hid hP3
      have hszu : ws.heap.size + 1 = wu.heap.size := by rw [hwu, World.size_alloc]; simp only [World.size_setCell]
      have HSZU := Lib.hid hszu
      clear hwu hP1 hP2 hP3 hszu hch
      go_wp2_with (at_builtin; rw [HWU.out]; refine wpList_append_sAt rfl _ _ 33 rfl Try.underlying33 (W.heap.size + 4) (v 0) (S 0) rfl (by have h := (HP3.out.st.led.own 0 (by decide)).alloc (.cells #[.string t] 9); rw [HS0.out] at h; exact h) (.slice (some ⟨ws.heap.size + 1, 0, none⟩) 1 1) [t] rfl (by rw [HSZU.out]; exact ⟨⟨some ⟨wu.heap.size, 0, none⟩, 1, rfl, Nat.le_refl _, by unfold maxLen; omega, fun _ => ⟨wu.heap.size, 0, rfl, by simp, fun j hj => by
         have : j = 0 := by simp at hj; omega
         subst this; simp⟩⟩, fun n c e => by cases e⟩) (by have := HNW.out; simp; omega) (by have := HP3.out.st.siz; simp; omega) ?_)
      intro v' w2 h1 h2 h3
      have hba : Below wu.heap.size wu (wu.alloc (.cells #[.string t] 9)) := (Below.refl _ _).alloc (Nat.le_refl _) _
      have HPa := HP3.out.below hba
      have hown : ∀ b, some b = (v 0).ownBlock → W.heap.size + 4 ≤ b := fun b e => ((HP3.out.st.led.own 0 (by decide)).lt b e.symm).1
      have hN4 := HP3.out.st.siz
      have hblk : w2.heap[W.heap.size + 1]? = (wu.alloc (.cells #[.string t] 9)).heap[W.heap.size + 1]? := h2.block _ (by rw [World.size_alloc]; omega) (fun e => by have := hown _ e; omega)
      have r2 : w2.cell? ⟨W.heap.size + 1, 0, none⟩ = some (v 0) := (World.cell?_of_block hblk).trans (HPa.row 0 0 (by decide) (by decide))
      have fz2 : w2.frozen? ⟨W.heap.size + 1, 0, none⟩ = false := (World.frozen?_of_block hblk).trans (HPa.st.fz _ _ (by omega) (by omega))
      have hBz : Below W.heap.size W w2 := (HBU.out.trans (hba.mono HBU.out.size)).grown h2 (by rw [World.size_alloc]; omega) (fun b e => by have := hown b e.symm; omega)
      have h1 : w2.ownsRow (W.heap.size + 4) 9 1 v' (S 0 ++ [t]).length ((S 0 ++ [t]).map .string) := by simpa using h1
      obtain ⟨Az, cz, hvz, _, _⟩ := (StrsN.of_owns h1).1.len
      obtain ⟨nz, hnz⟩ : ∃ q, q = (S 0 ++ [t]).length := ⟨_, rfl⟩
      have HPb := HPa.append (by decide) (fun i hi e => (updV_other _ _ e).symm) v' (by rw [updV_same]; exact h1) h2 (by rw [World.size_alloc]; exact h3)
      have HBZ := Lib.hid (hBz.setCell (p := ⟨W.heap.size + 1, 0, none⟩) (by dsimp only; omega) v')
      rw [← hnz] at hvz
      have HPB := Lib.hid HPb
      subst hvz
      have hN2 : W.heap.size + 1 < w2.heap.size := by have := h2.size; rw [World.size_alloc] at this; omega
      clear HPb hBz hown hblk hba HPa h1 h2 h3 HP3 HBU HWU r1 k0 k1 k2 k3 k4 k5 k6 k7 f0 f1 f2 f3 f4 f5 f6 f7 hN0 hN1 g1 hnz HSZU hN4 HS0
      go_wp2_with fail
      refine ⟨?_, ?measure⟩
      (repeat apply Exists.intro)
      refine ⟨?rel, rfl⟩
      case rel => exact ⟨j + 1, by omega, by go_num, ⟨_, _, _, _, _, HPB.out⟩, HBZ.out⟩
      case measure => simp [intOf]; omega
    ·
     have hj2 : j = n0 := by omega
     subst hj2
     go_wp2_with fail
     refine ⟨?_, ?measure⟩
     ·
      obtain ⟨S, v, l, E, vw, hP⟩ := HP2.out
      exact ⟨0 + 1, by decide, by go_num, ⟨S, v, l, E, vw, hP.next⟩, HB2⟩
     case measure => simp [intOf]
  ·
   have e1 : wr.cell? ⟨sb, 1, none⟩ = some (.slice A1 n1 c1) := by
    obtain ⟨S, v, l, E, vw, hP⟩ := HP.out
    exact cells_at (hP.sbk.trans HSB.out) 1
   go_wp2_with fail
   go_loopw [65] (fun i ws => ∃ j : Nat, j ≤ n1 ∧ i = .int .i64 j ∧ Hid (PX W.heap.size 1 j sb wh ws) ∧ Hid (Below W.heap.size W ws)) (fun i _ => n1 - (intOf i).toNat)
   case atStart => exact ⟨0, Nat.zero_le _, rfl, HP, HB⟩
   case round =>
    obtain ⟨j, hj, rfl, HP2, HB2⟩ := hrel
    clear HP HB e1
    by_cases hlt : j < n1
    ·
     have hlt' : (j : Int) < (n1 : Int) := by omega
     have hjx : j < x1.length := by have := HN1.out; omega
     obtain ⟨gb, go, rfl, hgb, hcell⟩ := HL1.out.1.cells (by omega)
     have e1 := (HB2.out.cell (p := ⟨gb, go + j, none⟩) hgb).trans (hcell j hjx)
     generalize x1[j] = t at *
     clear hcell hgb hjx
     by_cases hbig : t.size ≤ 300
     case neg =>
      have d1 : decide ((300 : Int) < (t.size : Int)) = true := by simp; omega
      go_wp2_with fail
      refine (HAW.out _).mono ?_
      rintro e w' ⟨rfl, hb⟩
      have HBZ := Lib.hid (HB2.out.trans (hb.mono HB2.out.size))
      clear hb
      go_wp2_with fail
      go_ret
      exact ⟨rfl, HBZ.out⟩
     have d1 : decide ((300 : Int) < (t.size : Int)) = false := by simp; omega
     obtain ⟨S, v, l, E, vw, hP⟩ := HP2.out
     have hw : StrsN wr (vw 1) (S 1) := by have h := (hP.st.ends 1 (by decide)).w; rw [hP.ini 1 (by decide)] at h; exact h
     obtain ⟨Aw, cw, hvw, _, _⟩ := hw.1.len
     have hS := hP.cur
     obtain ⟨nw, hnw⟩ : ∃ q, q = (S 1).length := ⟨_, rfl⟩
     rw [← hnw] at hvw
     have HVW := Lib.hid hvw
     have HNW := Lib.hid hnw.symm
     have HW := Lib.hid hw
     have HLED := Lib.hid hP.st.led
     have HSZR := Lib.hid hP.st.siz
     clear hw hnw hvw HP2
     obtain ⟨z0, z1, z2, z3, z4, z5, z6, z7⟩ := hP.cel 1 (by decide)
     have k0 : wr.cell? ⟨W.heap.size, 8, none⟩ = some (.int .u64 7) := z0
     have k1 : wr.cell? ⟨W.heap.size, 9, none⟩ = some (.int .i64 0) := z1
     have k2 : wr.cell? ⟨W.heap.size, 10, none⟩ = some (.slice none 0 0) := z2
     have k3 : wr.cell? ⟨W.heap.size, 11, none⟩ = some (.slice Aw nw cw) := by rw [← HVW.out]; exact z3
     have k4 : wr.cell? ⟨W.heap.size, 12, none⟩ = some (.int .i64 0) := z4
     have k5 : wr.cell? ⟨W.heap.size, 13, none⟩ = some (.slice none 0 0) := z5
     have k6 : wr.cell? ⟨W.heap.size, 14, none⟩ = some (.int .i64 0) := z6
     have k7 : wr.cell? ⟨W.heap.size, 15, none⟩ = some (.bool false) := z7
     clear z0 z1 z2 z3 z4 z5 z6 z7
     by_cases ht0 : t = ⟨#[]⟩
     ·
      clear HLED HSZR
      subst ht0
      go_wp2_with fail
      refine (send_no 7 Aw nw cw wr).mono ?_
      rintro e ws ⟨rfl, hb⟩
      have hP1 := hP.below hb
      have HB3 := Lib.hid (HB2.out.trans (hb.mono HB2.out.size))
      clear hb hP k0 k1 k2 k3 k4 k5 k6 k7
      unfold End8
      obtain ⟨z0, z1, z2, z3, z4, z5, z6, z7⟩ := hP1.cel 1 (by decide)
      have k0 : ws.cell? ⟨W.heap.size, 8, none⟩ = some (.int .u64 7) := z0
      have k1 : ws.cell? ⟨W.heap.size, 9, none⟩ = some (.int .i64 0) := z1
      have k2 : ws.cell? ⟨W.heap.size, 10, none⟩ = some (.slice none 0 0) := z2
      have k3 : ws.cell? ⟨W.heap.size, 11, none⟩ = some (.slice Aw nw cw) := by rw [← HVW.out]; exact z3
      have k4 : ws.cell? ⟨W.heap.size, 12, none⟩ = some (.int .i64 0) := z4
      have k5 : ws.cell? ⟨W.heap.size, 13, none⟩ = some (.slice none 0 0) := z5
      have k6 : ws.cell? ⟨W.heap.size, 14, none⟩ = some (.int .i64 0) := z6
      have k7 : ws.cell? ⟨W.heap.size, 15, none⟩ = some (.bool false) := z7
      clear z0 z1 z2 z3 z4 z5 z6 z7
      have f8 : ws.frozen? ⟨W.heap.size, 8, none⟩ = false := hP1.st.fz _ _ (by omega) (by omega)
      have f9 : ws.frozen? ⟨W.heap.size, 9, none⟩ = false := hP1.st.fz _ _ (by omega) (by omega)
      have f10 : ws.frozen? ⟨W.heap.size, 10, none⟩ = false := hP1.st.fz _ _ (by omega) (by omega)
      have f11 : ws.frozen? ⟨W.heap.size, 11, none⟩ = false := hP1.st.fz _ _ (by omega) (by omega)
      have f12 : ws.frozen? ⟨W.heap.size, 12, none⟩ = false := hP1.st.fz _ _ (by omega) (by omega)
      have f13 : ws.frozen? ⟨W.heap.size, 13, none⟩ = false := hP1.st.fz _ _ (by omega) (by omega)
      have f14 : ws.frozen? ⟨W.heap.size, 14, none⟩ = false := hP1.st.fz _ _ (by omega) (by omega)
      have f15 : ws.frozen? ⟨W.heap.size, 15, none⟩ = false := hP1.st.fz _ _ (by omega) (by omega)
      have hN0 : W.heap.size < ws.heap.size := by have := hP1.st.siz; omega
      have hN1 : W.heap.size + 1 < ws.heap.size := by have := hP1.st.siz; omega
      have HP1 := Lib.hid hP1
      clear hP1
      go_wp2_with fail
      refine ⟨?_, ?measure⟩
      (repeat apply Exists.intro)
      refine ⟨?rel, rfl⟩
      case rel =>
       refine ⟨j + 1, by omega, by go_num, ?_, ?_⟩
       ·
        have h := HP1.out.same (by decide)
        rw [HVW.out] at h
        exact ⟨_, _, _, _, _, h.below ((Below.refl _ _).alloc (Nat.le_refl _) _)⟩
       ·
        have h := below_set8o HB3.out (Nat.le_refl _) 8 (.int .u64 7) (.int .i64 0) (.slice none 0 0) (.slice Aw nw cw) (.int .i64 0) (.slice none 0 0) (.int .i64 0) (.bool false)
        exact h.alloc h.size _
      case measure => simp [intOf]; omega
     ·
      go_wp2_with fail
      refine (send_yes 7 _ (S 1) t ht0 (by omega) wr (by rw [← HVW.out]; exact HW.out) (by omega)).mono ?_
      rintro e ws ⟨x, rfl, ho, hb⟩
      have hP1 := hP.below hb
      have HB3 := Lib.hid (HB2.out.trans (hb.mono HB2.out.size))
      clear hb hP k0 k1 k2 k3 k4 k5 k6 k7
      unfold End8
      have hA : Away (W.heap.size + 4) 6 v ws x := fun b hb => by
       have h1 := ho.lt b hb
       refine ⟨by have := HSZR.out; omega, h1.2, fun i hi e => ?_⟩
       have h2 := ((HLED.out.own i hi).lt b e).2
       omega
      have hx := StrsN.of_owns ho
      have hP2 := hP1.store (k := 1) (by decide) (by omega) t hbig x hx hA
      obtain ⟨Ax, cx, hxe, _, _⟩ := hx.1.len
      obtain ⟨nx, hnx⟩ : ∃ q, q = (S 1 ++ [t]).length := ⟨_, rfl⟩
      rw [← hnx] at hxe
      subst hxe
      clear ho hx hA hnx HLED HSZR
      obtain ⟨z0, z1, z2, z3, z4, z5, z6, z7⟩ := hP1.cel 1 (by decide)
      have k0 : ws.cell? ⟨W.heap.size, 8, none⟩ = some (.int .u64 7) := z0
      have k1 : ws.cell? ⟨W.heap.size, 9, none⟩ = some (.int .i64 0) := z1
      have k2 : ws.cell? ⟨W.heap.size, 10, none⟩ = some (.slice none 0 0) := z2
      have k3 : ws.cell? ⟨W.heap.size, 11, none⟩ = some (.slice Aw nw cw) := by rw [← HVW.out]; exact z3
      have k4 : ws.cell? ⟨W.heap.size, 12, none⟩ = some (.int .i64 0) := z4
      have k5 : ws.cell? ⟨W.heap.size, 13, none⟩ = some (.slice none 0 0) := z5
      have k6 : ws.cell? ⟨W.heap.size, 14, none⟩ = some (.int .i64 0) := z6
      have k7 : ws.cell? ⟨W.heap.size, 15, none⟩ = some (.bool false) := z7
      clear z0 z1 z2 z3 z4 z5 z6 z7
      have f8 : ws.frozen? ⟨W.heap.size, 8, none⟩ = false := hP1.st.fz _ _ (by omega) (by omega)
      have f9 : ws.frozen? ⟨W.heap.size, 9, none⟩ = false := hP1.st.fz _ _ (by omega) (by omega)
      have f10 : ws.frozen? ⟨W.heap.size, 10, none⟩ = false := hP1.st.fz _ _ (by omega) (by omega)
      have f11 : ws.frozen? ⟨W.heap.size, 11, none⟩ = false := hP1.st.fz _ _ (by omega) (by omega)
      have f12 : ws.frozen? ⟨W.heap.size, 12, none⟩ = false := hP1.st.fz _ _ (by omega) (by omega)
      have f13 : ws.frozen? ⟨W.heap.size, 13, none⟩ = false := hP1.st.fz _ _ (by omega) (by omega)
      have f14 : ws.frozen? ⟨W.heap.size, 14, none⟩ = false := hP1.st.fz _ _ (by omega) (by omega)
      have f15 : ws.frozen? ⟨W.heap.size, 15, none⟩ = false := hP1.st.fz _ _ (by omega) (by omega)
      have g1 : ws.frozen? ⟨W.heap.size + 1, 1, none⟩ = false := hP1.st.fz _ _ (by omega) (by omega)
      have hch : set8C ws W.heap.size (1 * 8) (.int .u64 7) (.int .i64 0) (.slice none 0 0) (.slice Ax nx cx) (.int .i64 0) (.slice none 0 0) (.int .i64 0) (.bool false) = ((((((((ws.setCell ⟨W.heap.size, 8, none⟩ (.int .u64 7)).setCell ⟨W.heap.size, 9, none⟩ (.int .i64 0)).setCell ⟨W.heap.size, 10, none⟩ (.slice none 0 0)).setCell ⟨W.heap.size, 11, none⟩ (.slice Ax nx cx)).setCell ⟨W.heap.size, 12, none⟩ (.int .i64 0)).setCell ⟨W.heap.size, 13, none⟩ (.slice none 0 0)).setCell ⟨W.heap.size, 14, none⟩ (.int .i64 0)).setCell ⟨W.heap.size, 15, none⟩ (.bool false)) := by simp only [set8C, Nat.zero_mul, Nat.zero_add, Nat.reduceMul, Nat.reduceAdd]
      rw [hch] at hP2
      obtain ⟨wu, hwu⟩ : ∃ q, q = ((((((((ws.setCell ⟨W.heap.size, 8, none⟩ (.int .u64 7)).setCell ⟨W.heap.size, 9, none⟩ (.int .i64 0)).setCell ⟨W.heap.size, 10, none⟩ (.slice none 0 0)).setCell ⟨W.heap.size, 11, none⟩ (.slice Ax nx cx)).setCell ⟨W.heap.size, 12, none⟩ (.int .i64 0)).setCell ⟨W.heap.size, 13, none⟩ (.slice none 0 0)).setCell ⟨W.heap.size, 14, none⟩ (.int .i64 0)).setCell ⟨W.heap.size, 15, none⟩ (.bool false)).alloc (.cells #[.int .u64 7, .int .i64 0, .slice none 0 0, .slice Ax nx cx, .int .i64 0, .slice none 0 0, .int .i64 0, .bool false] 37) := ⟨_, rfl⟩
      have HWU : Hid (((((((((ws.setCell ⟨W.heap.size, 8, none⟩ (.int .u64 7)).setCell ⟨W.heap.size, 9, none⟩ (.int .i64 0)).setCell ⟨W.heap.size, 10, none⟩ (.slice none 0 0)).setCell ⟨W.heap.size, 11, none⟩ (.slice Ax nx cx)).setCell ⟨W.heap.size, 12, none⟩ (.int .i64 0)).setCell ⟨W.heap.size, 13, none⟩ (.slice none 0 0)).setCell ⟨W.heap.size, 14, none⟩ (.int .i64 0)).setCell ⟨W.heap.size, 15, none⟩ (.bool false)).alloc (.cells #[.int .u64 7, .int .i64 0, .slice none 0 0, .slice Ax nx cx, .int .i64 0, .slice none 0 0, .int .i64 0, .bool false] 37) = wu) := hwu.symm
      have hP3 : PHd W.heap.size 1 (j + 1) sb wh S (updV S 1 (S 1 ++ [t])) v l (updV E 1 (initV (.slice Ax nx cx) (S 1 ++ [t]))) (updV vw 1 (.slice Ax nx cx)) wu := by rw [hwu]; exact hP2.below ((Below.refl _ _).alloc (Nat.le_refl _) _)
      have HBU : Hid (Below W.heap.size W wu) := by
       unfold Hid
       rw [hwu]
       have h := below_set8o HB3.out (Nat.le_refl _) 8 (.int .u64 7) (.int .i64 0) (.slice none 0 0) (.slice Ax nx cx) (.int .i64 0) (.slice none 0 0) (.int .i64 0) (.bool false)
       exact h.alloc h.size _
      have hN0 : W.heap.size < ws.heap.size := by have := hP1.st.siz; omega
      have hN1 : W.heap.size + 1 < ws.heap.size := by have := hP1.st.siz; omega
      have r1 : ws.cell? ⟨W.heap.size + 1, 1, none⟩ = some (v 1) := hP1.row 0 1 (by decide) (by decide)
      have HS0 := Lib.hid (hP1.sent 1 (by decide)).1
      have HP3 := Lib.hid hP3
      have hszu : ws.heap.size + 1 = wu.heap.size := by rw [hwu, World.size_alloc]; simp only [World.size_setCell]
      have HSZU := Lib.hid hszu
      clear hwu hP1 hP2 hP3 hszu hch
      go_wp2_with (at_builtin; rw [HWU.out]; refine wpList_append_sAt rfl _ _ 33 rfl Try.underlying33 (W.heap.size + 4) (v 1) (S 1) rfl (by have h := (HP3.out.st.led.own 1 (by decide)).alloc (.cells #[.string t] 9); rw [HS0.out] at h; exact h) (.slice (some ⟨ws.heap.size + 1, 0, none⟩) 1 1) [t] rfl (by rw [HSZU.out]; exact ⟨⟨some ⟨wu.heap.size, 0, none⟩, 1, rfl, Nat.le_refl _, by unfold maxLen; omega, fun _ => ⟨wu.heap.size, 0, rfl, by simp, fun j hj => by
         have : j = 0 := by simp at hj; omega
         subst this; simp⟩⟩, fun n c e => by cases e⟩) (by have := HNW.out; simp; omega) (by have := HP3.out.st.siz; simp; omega) ?_)
      intro v' w2 h1 h2 h3
      have hba : Below wu.heap.size wu (wu.alloc (.cells #[.string t] 9)) := (Below.refl _ _).alloc (Nat.le_refl _) _
      have HPa := HP3.out.below hba
      have hown : ∀ b, some b = (v 1).ownBlock → W.heap.size + 4 ≤ b := fun b e => ((HP3.out.st.led.own 1 (by decide)).lt b e.symm).1
      have hN4 := HP3.out.st.siz
      have hblk : w2.heap[W.heap.size + 1]? = (wu.alloc (.cells #[.string t] 9)).heap[W.heap.size + 1]? := h2.block _ (by rw [World.size_alloc]; omega) (fun e => by have := hown _ e; omega)
      have r2 : w2.cell? ⟨W.heap.size + 1, 1, none⟩ = some (v 1) := (World.cell?_of_block hblk).trans (HPa.row 0 1 (by decide) (by decide))
      have fz2 : w2.frozen? ⟨W.heap.size + 1, 1, none⟩ = false := (World.frozen?_of_block hblk).trans (HPa.st.fz _ _ (by omega) (by omega))
      have hBz : Below W.heap.size W w2 := (HBU.out.trans (hba.mono HBU.out.size)).grown h2 (by rw [World.size_alloc]; omega) (fun b e => by have := hown b e.symm; omega)
      have h1 : w2.ownsRow (W.heap.size + 4) 9 1 v' (S 1 ++ [t]).length ((S 1 ++ [t]).map .string) := by simpa using h1
      obtain ⟨Az, cz, hvz, _, _⟩ := (StrsN.of_owns h1).1.len
      obtain ⟨nz, hnz⟩ : ∃ q, q = (S 1 ++ [t]).length := ⟨_, rfl⟩
      have HPb := HPa.append (by decide) (fun i hi e => (updV_other _ _ e).symm) v' (by rw [updV_same]; exact h1) h2 (by rw [World.size_alloc]; exact h3)
      have HBZ := Lib.hid (hBz.setCell (p := ⟨W.heap.size + 1, 1, none⟩) (by dsimp only; omega) v')
      rw [← hnz] at hvz
      have HPB := Lib.hid HPb
      subst hvz
      have hN2 : W.heap.size + 1 < w2.heap.size := by have := h2.size; rw [World.size_alloc] at this; omega
      clear HPb hBz hown hblk hba HPa h1 h2 h3 HP3 HBU HWU r1 k0 k1 k2 k3 k4 k5 k6 k7 f8 f9 f10 f11 f12 f13 f14 f15 hN0 hN1 g1 hnz HSZU hN4 HS0
      go_wp2_with fail
      refine ⟨?_, ?measure⟩
      (repeat apply Exists.intro)
      refine ⟨?rel, rfl⟩
      case rel => exact ⟨j + 1, by omega, by go_num, ⟨_, _, _, _, _, HPB.out⟩, HBZ.out⟩
      case measure => simp [intOf]; omega
    ·
     have hj2 : j = n1 := by omega
     subst hj2
     go_wp2_with fail
     refine ⟨?_, ?measure⟩
     ·
      obtain ⟨S, v, l, E, vw, hP⟩ := HP2.out
      exact ⟨1 + 1, by decide, by go_num, ⟨S, v, l, E, vw, hP.next⟩, HB2⟩
     case measure => simp [intOf]
  ·
   have HT : Hid (TX W.heap.size 0 wr) := by
    obtain ⟨S, v, l, E, vw, hP⟩ := HP.out
    exact ⟨S, v, l, E, _, hP.td⟩
   clear HP HSB HL0 HN0 HZ0 HL1 HN1 HZ1 hk
   go_wp2_with fail
   go_loopw [98] (fun i ws => ∃ j : Nat, j ≤ n3 ∧ i = .int .i64 j ∧ Hid (∀ y ∈ x3.take j, JK y) ∧ Hid (TX W.heap.size 0 ws) ∧ Hid (Below W.heap.size W ws)) (fun i _ => n3 - (intOf i).toNat)
   case atStart => exact ⟨0, Nat.zero_le _, rfl, by unfold Hid; simp, HT, HB⟩
   case round =>
    obtain ⟨j, hj, rfl, HJ, HT2, HB2⟩ := hrel
    clear HT HB
    by_cases hlt : j < n3
    ·
     have hjx : j < x3.length := by have := HN3.out; omega
     have hlt' : (j : Int) < (n3 : Int) := by omega
     obtain ⟨gb, go, rfl, hgb, hcell⟩ := HL3.out.1.cells (by omega)
     have e1 := (HB2.out.cell (p := ⟨gb, go + j, none⟩) hgb).trans (hcell j hjx)
     have hts : x3[j].size ≤ 140737488351232 := HZ3.out _ (List.getElem_mem hjx)
     have HST : Hid (x3.take (j + 1) = x3.take j ++ [x3[j]]) := List.take_succ_eq_append_getElem hjx
     generalize x3[j] = t at *
     clear hcell hgb hjx
     have HRD := Lib.hid (fun w => rread_wide t hts w)
     clear hts
     go_wp2_with fail
     refine (HRD.out _).mono ?_
     rintro e wt ⟨rfl, hb⟩
     have HT3 := Lib.hid (HT2.out.below hb)
     have HB3 := Lib.hid (HB2.out.trans (hb.mono HB2.out.size))
     clear hb HT2 HRD
     obtain ⟨R, hR⟩ : ∃ R, R = lRead t.data.toList := ⟨_, rfl⟩
     rw [← hR]
     have HR := Lib.hid hR
     clear hR
     obtain ⟨⟨s, q, a, d⟩, c⟩ := R
     dsimp only [FrV]
     by_cases hc : c = 0
     ·
      subst hc
      by_cases hs7 : s = 7
      ·
       subst hs7
       go_wp2_with fail
       refine (HAW.out _).mono ?_
       rintro e w' ⟨rfl, hb⟩
       have HBZ := Lib.hid ((HB3.out.alloc HB3.out.size _).trans (hb.mono (HB3.out.alloc HB3.out.size _).size))
       clear hb
       go_wp2_with fail
       go_ret
       exact ⟨rfl, HBZ.out⟩
      ·
       have HNF : Hid (∀ (q a : Nat) (d : ByteArray), lRead t.data.toList ≠ ((7, q, a, d.data.toList), 0)) := fun q' a' d' e => by
        rw [← HR.out] at e
        injection e with e _
        injection e with e _
        exact hs7 e
       have d7 : ((s : Int) == 7) = false := by rw [beq_eq_false_iff_ne]; omega
       by_cases hz : t.size ≤ 1000
       case neg =>
        have d1 : decide ((1000 : Int) < (t.size : Int)) = true := by simp; omega
        go_wp2_with fail
        refine (HAW.out _).mono ?_
        rintro e w' ⟨rfl, hb⟩
        have HBZ := Lib.hid ((HB3.out.alloc HB3.out.size _).trans (hb.mono (HB3.out.alloc HB3.out.size _).size))
        clear hb
        go_wp2_with fail
        go_ret
        exact ⟨rfl, HBZ.out⟩
       have d1 : decide ((1000 : Int) < (t.size : Int)) = false := by simp; omega
       have HJ3 : Hid (JK t) := ⟨hz, HNF.out⟩
       go_wp2_with fail
       refine ⟨?_, ?measure⟩
       ·
        refine ⟨j + 1, by omega, by go_num, ?_, HT3.out.below ((Below.refl _ _).alloc (Nat.le_refl _) _), HB3.out.alloc HB3.out.size _⟩
        intro y hy
        rw [HST.out] at hy
        rcases List.mem_append.1 hy with hy | hy
        · exact HJ.out y hy
        · simp at hy; subst hy; exact HJ3.out
       case measure => simp [intOf]; omega
     ·
      have HNF : Hid (∀ (q a : Nat) (d : ByteArray), lRead t.data.toList ≠ ((7, q, a, d.data.toList), 0)) := fun q' a' d' e => by
       rw [← HR.out] at e
       injection e with _ e
       exact hc e
      have d0 : ((c : Int) == 0) = false := by rw [beq_eq_false_iff_ne]; omega
      by_cases hz : t.size ≤ 1000
      case neg =>
       have d1 : decide ((1000 : Int) < (t.size : Int)) = true := by simp; omega
       go_wp2_with fail
       refine (HAW.out _).mono ?_
       rintro e w' ⟨rfl, hb⟩
       have HBZ := Lib.hid ((HB3.out.alloc HB3.out.size _).trans (hb.mono (HB3.out.alloc HB3.out.size _).size))
       clear hb
       go_wp2_with fail
       go_ret
       exact ⟨rfl, HBZ.out⟩
      have d1 : decide ((1000 : Int) < (t.size : Int)) = false := by simp; omega
      have HJ3 : Hid (JK t) := ⟨hz, HNF.out⟩
      go_wp2_with fail
      refine ⟨?_, ?measure⟩
      ·
       refine ⟨j + 1, by omega, by go_num, ?_, HT3.out.below ((Below.refl _ _).alloc (Nat.le_refl _) _), HB3.out.alloc HB3.out.size _⟩
       intro y hy
       rw [HST.out] at hy
       rcases List.mem_append.1 hy with hy | hy
       · exact HJ.out y hy
       · simp at hy; subst hy; exact HJ3.out
      case measure => simp [intOf]; omega
    ·
     have hj3 : n3 = j := by omega
     subst hj3
     have HJA : Hid (∀ y ∈ x3, JK y) := by
      have h := HJ.out
      rw [List.take_of_length_le (by have := HN3.out; omega)] at h
      exact h
     clear HJ hlt hj
     go_wp2_with fail
     go_loopw [123] (fun i ws => ∃ j : Nat, j ≤ n2 ∧ i = .int .i64 j ∧ Hid (TX W.heap.size j ws) ∧ Hid (Below W.heap.size W ws)) (fun i _ => n2 - (intOf i).toNat)
     case atStart => exact ⟨0, Nat.zero_le _, rfl, HT2, HB2⟩
     case round =>
      clear HT2 HB2
      obtain ⟨j, hj, rfl, HT, HB⟩ := hrel
      by_cases hlt : j < n2
      ·
       obtain ⟨gd, od, rfl, hgd, ka, kb, kc, h256a, h256b, h256c, q0, q1, q2⟩ := do_at HL2.out.1 HL2.out.2.1 hlt
       have e0 := (HB.out.cell (p := ⟨gd, od + j * 3, none⟩) hgd).trans q0
       have e1 := (HB.out.cell (p := ⟨gd, od + j * 3 + 1, none⟩) hgd).trans q1
       have e2 := (HB.out.cell (p := ⟨gd, od + j * 3 + 2, none⟩) hgd).trans q2
       clear q0 q1 q2 hgd
       obtain ⟨S, v, l, E, K, hD⟩ := HT.out
       refine todo_round W A3 n3 c3 x3 n2 c2 gd od _ _ _ _ _ _ _ _ _ _ _ _ _ _ _ _ _ _ _ _ _ _ _ _ _ _ _ _ _ _ _ _ _ _ _ _ _ _ _ _ _ _ _ _ _ _ _ _ _ _ _ _ _ _ _ _ _ _ _ _ _ _ _ _ _ _ _ _ _ _ _ _ _ _ _ _ _ _ _ _ _ _ _ _ _ _ _ _ _ _ _ _ _ _ _ _ _ _ _ _ _ _ _ _ _ _ _ _ _ _ _ _ _ _ _ _ _ _ _ _ _ _ _ _ _ _ _ _ _ _ _ _ _ _ _ _ _ _ _ _ _ _ _ _ _ _ _ _ _ _ _ _ _ _ _ _ _ _ _ _ _ _ _ _ _ _ _ _ _ _ _ _ _ _ _ _ _ _ _ _ _ _ _ _ _ _ _ _ _ _ _ _ _ _ _ _ _ _ _ _ _ _ _ _ _ _ _ _ _ _ _ _ _ _ _ _ _ _ _ _ _ _ _ _ _ _ _ _ _ _ _ _ _ _ _ _ _ _ _ _ _ _ _ _ _ _ _ _ _ wr j ka kb kc S v l E K _ HL3 HN3 HJA g2 g3 hlt ⟨h256a, h256b, h256c⟩ e0 e1 e2 HB hD ?_
       unfold Hid
       intro v8 v24 v25 v26 v27 v28 v124 v125 v126 v127 v128 v129 v130 v131 v132 v133 v134 v135 v136 v137 v138 v139 v140 v141 v142 v143 v144 v145 v146 v147 v148 v149 v150 v151 v152 v153 v154 v155 v156 v157 v158 v159 v160 v161 v162 v163 v164 v165 v166 v167 v168 v169 v170 v171 v172 v173 v174 v175 v176 v177 v178 v179 v180 v181 v182 v183 v184 v185 v186 v187 v188 v189 v190 v191 v192 v193 v194 v195 v196 v197 v198 v199 v200 v201 v202 v203 v204 v205 v206 v207 v208 v209 v210 v211 v212 v213 v214 v215 v216 v217 v218 v219 v220 v221 v222 v223 v224 v225 v226 v227 w' hT hB
       refine ⟨?_, ?measure⟩
       (repeat apply Exists.intro)
       refine ⟨?rel, rfl⟩
       case rel => exact ⟨j + 1, hlt, by go_num, hT, hB⟩
       case measure => simp [intOf]; omega
      ·
       have hj2 : n2 = j := by omega
       subst hj2
       go_wp2_with fail
       go_loopw [228] (fun i ws => ∃ k : Nat, k ≤ 2 ∧ i = .int .i64 k ∧ Hid (TX W.heap.size n2 ws) ∧ Hid (Below W.heap.size W ws)) (fun i _ => 2 - (intOf i).toNat)
       case atStart => exact ⟨0, by decide, rfl, HT, HB⟩
       case round =>
        clear HT HB
        obtain ⟨k, hk, rfl, HT, HB⟩ := hrel
        have hk3 : k = 0 ∨ k = 1 ∨ k = 2 := by omega
        rcases hk3 with rfl | rfl | rfl
        ·
         obtain ⟨S, v, l, E, K, hD⟩ := HT.out
         have hot := StrsN.of_owns (hD.st.led.own 2 (by decide))
         have hos := StrsN.of_owns (hD.st.led.own 1 (by decide))
         obtain ⟨At, ct, hvt, lf1, rt1⟩ := hot.1.len
         obtain ⟨As, cs, hvs, lf2, rt2⟩ := hos.1.len
         obtain ⟨nt, hnt⟩ : ∃ q, q = (l 2).length := ⟨_, rfl⟩
         obtain ⟨ns, hns⟩ : ∃ q, q = (l 1).length := ⟨_, rfl⟩
         have hl1 : l 2 = (S (1 - 0)).take (K 0) := (hD.tld 0 (by decide)).1
         have hl2 : l 1 = S (1 - 0) := hD.snt 1 (by decide)
         have hle : nt ≤ ns := by rw [hnt, hns, hl1, hl2, List.length_take]; omega
         have heq : (l 1).take nt = l 2 := by
          rw [hnt, hl1, hl2, List.length_take, List.take_eq_take_iff]
          omega
         have hns30 : ns ≤ 30 := by rw [hns, hl2]; exact (hD.len 1 (by decide)).1
         rw [← hnt] at hvt lf1
         rw [← hns] at hvs lf2
         have t1 : wr.cell? ⟨W.heap.size + 1 + 1, 0, none⟩ = some (.slice At nt ct) := by rw [← hvt]; exact hD.st.row 1 0 (by decide) (by decide)
         have s1 : wr.cell? ⟨W.heap.size + 1, 1, none⟩ = some (.slice As ns cs) := by rw [← hvs]; exact hD.st.row 0 1 (by decide) (by decide)
         rw [hvt] at hot
         rw [hvs] at hos
         have HOT := Lib.hid hot
         have HOS := Lib.hid hos
         have HEQ := Lib.hid heq
         have HNS := Lib.hid hns
         have HSZ := Lib.hid hD.st.siz
         clear hot hos heq hns hnt hl1 hl2 hvt hvs hD
         go_wp2_with fail
         have HBd := Lib.hid (HB.out.drew)
         have HT1 : Hid (wr.drew.cell? ⟨W.heap.size + 1 + 1, 0, none⟩ = some (.slice At nt ct)) := t1
         have HS1 : Hid (wr.drew.cell? ⟨W.heap.size + 1, 1, none⟩ = some (.slice As ns cs)) := s1
         have HOTd := Lib.hid (HOT.out.below ((Below.refl _ _).drew) (Nat.le_refl _))
         have HOSd := Lib.hid (HOS.out.below ((Below.refl _ _).drew) (Nat.le_refl _))
         have HTd := Lib.hid (HT.out.below (Below.refl _ _).drew)
         have HZd : Hid (W.heap.size + 4 ≤ wr.drew.heap.size) := HSZ.out
         refine wp_region_noPanic ?_
         refine wp_region_held_drew (S := fun w' => Below wr.drew.heap.size wr.drew w') (by kernel_rfl) (Below.refl _ _) (fun hHeld => ?_)
         have dgt : decide ((ns : Int) < (nt : Int)) = false := by simp; omega
         clear t1 s1 HB HT HOT HOS HSZ
         generalize wr.drew = wd at *
         refine wpAnyH_take (i := 0) (v := .int .i64 nt) rfl (by kernel_rfl) (by kernel_rfl) (by kernel_rfl) (fun _ _ _ h => h) (Or.inl ⟨by kernel_rfl, ?_⟩) hHeld ?_
         ·
          intro wz hSw
          go_simp
         refine wpAnyH_take (i := 1) (v := .int .i64 0) rfl (by kernel_rfl) (by kernel_rfl) (by kernel_rfl) (fun _ _ _ h => h) (Or.inl ⟨by kernel_rfl, ?_⟩) hHeld ?_
         ·
          intro wz hSw
          go_simp
         refine wpAnyH_take (i := 2) (v := .int .i64 1) rfl (by kernel_rfl) (by kernel_rfl) (by kernel_rfl) (fun _ _ _ h => h) (Or.inl ⟨by kernel_rfl, ?_⟩) hHeld ?_
         ·
          intro wz hSw
          go_simp
          first | done | ((try rw [Int.tdiv_eq_ediv_of_nonneg (by omega)]); (try rw [Int.tmod_eq_emod_of_nonneg (by omega)]); (try rw [IntKind.wrap_i64]); (try omega))
         refine wpAnyH_take (i := 3) (v := .pointer (some ⟨W.heap.size + 1, 1, none⟩)) rfl (by kernel_rfl) (by kernel_rfl) (by kernel_rfl) (fun _ _ _ h => h) (Or.inl ⟨by kernel_rfl, ?_⟩) hHeld ?_
         ·
          intro wz hSw
          go_simp
         refine wpAnyH_take (i := 4) (v := .slice As ns cs) rfl (by kernel_rfl) (by kernel_rfl) (by kernel_rfl) (fun _ _ _ h => h) (Or.inl ⟨by kernel_rfl, ?_⟩) hHeld ?_
         ·
          intro wz hSw
          have hh := (hSw.cell (p := ⟨W.heap.size + 1, 1, none⟩) (by have := HZd.out; dsimp only; omega)).trans HS1.out
          go_simp
         try simp only [Act.put, List.getElem_toArray, List.getElem_cons_succ, List.getElem_cons_zero, List.setIfInBounds_toArray, List.set_cons_zero, List.set_cons_succ]
         refine wpAnyH_take (i := 5) (v := .int .i64 ns) rfl (by kernel_rfl) (by kernel_rfl) (by kernel_rfl) (fun _ _ _ h => h) (Or.inl ⟨by kernel_rfl, ?_⟩) hHeld ?_
         ·
          intro wz hSw
          go_simp
         refine wpAnyH_take (i := 6) (v := .bool false) rfl (by kernel_rfl) (by kernel_rfl) (by kernel_rfl) (fun _ _ _ h => h) (Or.inl ⟨by kernel_rfl, ?_⟩) hHeld ?_
         ·
          intro wz hSw
          go_simp
         refine wpAnyH_take (i := 7) (v := .bool false) rfl (by kernel_rfl) (by kernel_rfl) (by kernel_rfl) (fun _ _ _ h => h) (Or.inl ⟨by kernel_rfl, ?_⟩) hHeld ?_
         ·
          intro wz hSw
          go_simp
         refine wpAnyH_take (i := 8) (v := .int .i64 0) rfl (by kernel_rfl) (by kernel_rfl) (by kernel_rfl) (fun _ _ _ h => h) (Or.inl ⟨by kernel_rfl, ?_⟩) hHeld ?_
         ·
          intro wz hSw
          go_simp
         refine wpAnyH_take (i := 9) (v := .pointer (some ⟨W.heap.size + 1 + 1, 0, none⟩)) rfl (by kernel_rfl) (by kernel_rfl) (by kernel_rfl) (fun _ _ _ h => h) (Or.inl ⟨by kernel_rfl, ?_⟩) hHeld ?_
         ·
          intro wz hSw
          go_simp
         try simp only [Act.put, List.getElem_toArray, List.getElem_cons_succ, List.getElem_cons_zero, List.setIfInBounds_toArray, List.set_cons_zero, List.set_cons_succ]
         refine wpAnyH_take (i := 10) (v := .slice At nt ct) rfl (by kernel_rfl) (by kernel_rfl) (by kernel_rfl) (fun _ _ _ h => h) (Or.inl ⟨by kernel_rfl, ?_⟩) hHeld ?_
         ·
          intro wz hSw
          have hh := (hSw.cell (p := ⟨W.heap.size + 1 + 1, 0, none⟩) (by have := HZd.out; dsimp only; omega)).trans HT1.out
          go_simp
         refine wpAnyH_take (i := 11) (v := .int .i64 0) rfl (by kernel_rfl) (by kernel_rfl) (by kernel_rfl) (fun _ _ _ h => h) (Or.inl ⟨by kernel_rfl, ?_⟩) hHeld ?_
         ·
          intro wz hSw
          go_simp
         refine wpAnyH_take (i := 12) (v := .int .i64 1) rfl (by kernel_rfl) (by kernel_rfl) (by kernel_rfl) (fun _ _ _ h => h) (Or.inl ⟨by kernel_rfl, ?_⟩) hHeld ?_
         ·
          intro wz hSw
          go_simp
          first | done | ((try rw [Int.tdiv_eq_ediv_of_nonneg (by omega)]); (try rw [Int.tmod_eq_emod_of_nonneg (by omega)]); (try rw [IntKind.wrap_i64]); (try omega))
         refine wpAnyH_take (i := 13) (v := .pointer (some ⟨W.heap.size + 1, 1, none⟩)) rfl (by kernel_rfl) (by kernel_rfl) (by kernel_rfl) (fun _ _ _ h => h) (Or.inl ⟨by kernel_rfl, ?_⟩) hHeld ?_
         ·
          intro wz hSw
          go_simp
         refine wpAnyH_take (i := 14) (v := .slice As ns cs) rfl (by kernel_rfl) (by kernel_rfl) (by kernel_rfl) (fun _ _ _ h => h) (Or.inl ⟨by kernel_rfl, ?_⟩) hHeld ?_
         ·
          intro wz hSw
          have hh := (hSw.cell (p := ⟨W.heap.size + 1, 1, none⟩) (by have := HZd.out; dsimp only; omega)).trans HS1.out
          go_simp
         try simp only [Act.put, List.getElem_toArray, List.getElem_cons_succ, List.getElem_cons_zero, List.setIfInBounds_toArray, List.set_cons_zero, List.set_cons_succ]
         refine wpAnyH_take (i := 15) (v := .int .i64 nt) rfl (by kernel_rfl) (by kernel_rfl) (by kernel_rfl) (fun _ _ _ h => h) (Or.inl ⟨by kernel_rfl, ?_⟩) hHeld ?_
         ·
          intro wz hSw
          go_simp
         refine wpAnyH_take (i := 16) (v := .slice As nt cs) rfl (by kernel_rfl) (by kernel_rfl) (by kernel_rfl) (fun _ _ _ h => h) (Or.inl ⟨by kernel_rfl, ?_⟩) hHeld ?_
         ·
          intro wz hSw
          go_simp
          first | done | (intro hbad; omega)
         have hsm := same_any wd (.slice At nt ct) (.slice As nt cs) (l 2) ((l 1).take nt) HOTd.out.1 (by have h := HOSd.out.take nt (by rw [← HNS.out]; exact hle); rw [sliced0] at h; exact h.1)
         rw [HEQ.out, sameB_self] at hsm
         refine wpAnyH_ready (rs := [17]) (by kernel_rfl) (by simp) ?_
         refine (AllReadyH.cons rfl (fun Kc hK => ?_) AllReadyH.nil)
         go_simp
         go_at_call 16
         refine hsm.mono ?_
         rintro er w6 ⟨rfl, nq, hw6⟩
         have hb : Below wd.heap.size wd w6 := by rw [hw6]; exact belowDrewN wd nq
         have HB6 := Lib.hid (HBd.out.trans (hb.mono HBd.out.size))
         have HD6 := Lib.hid (HTd.out.below hb)
         have HS6 := Lib.hid hb
         clear hb hsm HTd HBd HOTd HOSd HT1 HS1 HZd hw6
         go_wp2_with fail
         refine hK.out _ _ HS6.out (fun hHeld => ?_)
         clear hK Kc
         try simp only [Act.put, List.getElem_toArray, List.getElem_cons_succ, List.getElem_cons_zero, List.setIfInBounds_toArray, List.set_cons_zero, List.set_cons_succ]
         refine wpAnyH_take (i := 18) (v := .bool false) rfl (by kernel_rfl) (by kernel_rfl) (by kernel_rfl) (fun _ _ _ h => h) (Or.inl ⟨by kernel_rfl, ?_⟩) hHeld ?_
         ·
          intro wz hSw
          go_simp
         refine wpAnyH_take (i := 19) (v := .bool false) rfl (by kernel_rfl) (by kernel_rfl) (by kernel_rfl) (fun _ _ _ h => h) (Or.inl ⟨by kernel_rfl, ?_⟩) hHeld ?_
         ·
          intro wz hSw
          go_simp
         refine wpAnyH_done (by kernel_rfl) ?_ _
         refine NoPanic.normal ?_
         go_wp2_with fail
         refine ⟨?_, ?measure⟩
         (repeat apply Exists.intro)
         refine ⟨?rel, rfl⟩
         case rel => exact ⟨0 + 1, by decide, by go_num, HD6.out, HB6.out⟩
         case measure => simp [intOf]
        ·
         obtain ⟨S, v, l, E, K, hD⟩ := HT.out
         have hot := StrsN.of_owns (hD.st.led.own 3 (by decide))
         have hos := StrsN.of_owns (hD.st.led.own 0 (by decide))
         obtain ⟨At, ct, hvt, lf1, rt1⟩ := hot.1.len
         obtain ⟨As, cs, hvs, lf2, rt2⟩ := hos.1.len
         obtain ⟨nt, hnt⟩ : ∃ q, q = (l 3).length := ⟨_, rfl⟩
         obtain ⟨ns, hns⟩ : ∃ q, q = (l 0).length := ⟨_, rfl⟩
         have hl1 : l 3 = (S (1 - 1)).take (K 1) := (hD.tld 1 (by decide)).1
         have hl2 : l 0 = S (1 - 1) := hD.snt 0 (by decide)
         have hle : nt ≤ ns := by rw [hnt, hns, hl1, hl2, List.length_take]; omega
         have heq : (l 0).take nt = l 3 := by
          rw [hnt, hl1, hl2, List.length_take, List.take_eq_take_iff]
          omega
         have hns30 : ns ≤ 30 := by rw [hns, hl2]; exact (hD.len 0 (by decide)).1
         rw [← hnt] at hvt lf1
         rw [← hns] at hvs lf2
         have t1 : wr.cell? ⟨W.heap.size + 1 + 1, 1, none⟩ = some (.slice At nt ct) := by rw [← hvt]; exact hD.st.row 1 1 (by decide) (by decide)
         have s1 : wr.cell? ⟨W.heap.size + 1, 0, none⟩ = some (.slice As ns cs) := by rw [← hvs]; exact hD.st.row 0 0 (by decide) (by decide)
         rw [hvt] at hot
         rw [hvs] at hos
         have HOT := Lib.hid hot
         have HOS := Lib.hid hos
         have HEQ := Lib.hid heq
         have HNS := Lib.hid hns
         have HSZ := Lib.hid hD.st.siz
         clear hot hos heq hns hnt hl1 hl2 hvt hvs hD
         go_wp2_with fail
         have HBd := Lib.hid (HB.out.drew)
         have HT1 : Hid (wr.drew.cell? ⟨W.heap.size + 1 + 1, 1, none⟩ = some (.slice At nt ct)) := t1
         have HS1 : Hid (wr.drew.cell? ⟨W.heap.size + 1, 0, none⟩ = some (.slice As ns cs)) := s1
         have HOTd := Lib.hid (HOT.out.below ((Below.refl _ _).drew) (Nat.le_refl _))
         have HOSd := Lib.hid (HOS.out.below ((Below.refl _ _).drew) (Nat.le_refl _))
         have HTd := Lib.hid (HT.out.below (Below.refl _ _).drew)
         have HZd : Hid (W.heap.size + 4 ≤ wr.drew.heap.size) := HSZ.out
         refine wp_region_noPanic ?_
         refine wp_region_held_drew (S := fun w' => Below wr.drew.heap.size wr.drew w') (by kernel_rfl) (Below.refl _ _) (fun hHeld => ?_)
         have dgt : decide ((ns : Int) < (nt : Int)) = false := by simp; omega
         clear t1 s1 HB HT HOT HOS HSZ
         generalize wr.drew = wd at *
         refine wpAnyH_take (i := 0) (v := .int .i64 nt) rfl (by kernel_rfl) (by kernel_rfl) (by kernel_rfl) (fun _ _ _ h => h) (Or.inl ⟨by kernel_rfl, ?_⟩) hHeld ?_
         ·
          intro wz hSw
          go_simp
         try simp only [Act.put, List.getElem_toArray, List.getElem_cons_succ, List.getElem_cons_zero, List.setIfInBounds_toArray, List.set_cons_zero, List.set_cons_succ]
         refine wpAnyH_take (i := 1) (v := .int .i64 1) rfl (by kernel_rfl) (by kernel_rfl) (by kernel_rfl) (fun _ _ _ h => h) (Or.inl ⟨by kernel_rfl, ?_⟩) hHeld ?_
         ·
          intro wz hSw
          go_simp
         refine wpAnyH_take (i := 2) (v := .int .i64 0) rfl (by kernel_rfl) (by kernel_rfl) (by kernel_rfl) (fun _ _ _ h => h) (Or.inl ⟨by kernel_rfl, ?_⟩) hHeld ?_
         ·
          intro wz hSw
          go_simp
          first | done | ((try rw [Int.tdiv_eq_ediv_of_nonneg (by omega)]); (try rw [Int.tmod_eq_emod_of_nonneg (by omega)]); (try rw [IntKind.wrap_i64]); (try omega))
         refine wpAnyH_take (i := 3) (v := .pointer (some ⟨W.heap.size + 1, 0, none⟩)) rfl (by kernel_rfl) (by kernel_rfl) (by kernel_rfl) (fun _ _ _ h => h) (Or.inl ⟨by kernel_rfl, ?_⟩) hHeld ?_
         ·
          intro wz hSw
          go_simp
         refine wpAnyH_take (i := 4) (v := .slice As ns cs) rfl (by kernel_rfl) (by kernel_rfl) (by kernel_rfl) (fun _ _ _ h => h) (Or.inl ⟨by kernel_rfl, ?_⟩) hHeld ?_
         ·
          intro wz hSw
          have hh := (hSw.cell (p := ⟨W.heap.size + 1, 0, none⟩) (by have := HZd.out; dsimp only; omega)).trans HS1.out
          go_simp
         refine wpAnyH_take (i := 5) (v := .int .i64 ns) rfl (by kernel_rfl) (by kernel_rfl) (by kernel_rfl) (fun _ _ _ h => h) (Or.inl ⟨by kernel_rfl, ?_⟩) hHeld ?_
         ·
          intro wz hSw
          go_simp
         try simp only [Act.put, List.getElem_toArray, List.getElem_cons_succ, List.getElem_cons_zero, List.setIfInBounds_toArray, List.set_cons_zero, List.set_cons_succ]
         refine wpAnyH_take (i := 6) (v := .bool false) rfl (by kernel_rfl) (by kernel_rfl) (by kernel_rfl) (fun _ _ _ h => h) (Or.inl ⟨by kernel_rfl, ?_⟩) hHeld ?_
         ·
          intro wz hSw
          go_simp
         refine wpAnyH_take (i := 7) (v := .bool false) rfl (by kernel_rfl) (by kernel_rfl) (by kernel_rfl) (fun _ _ _ h => h) (Or.inl ⟨by kernel_rfl, ?_⟩) hHeld ?_
         ·
          intro wz hSw
          go_simp
         refine wpAnyH_take (i := 8) (v := .int .i64 1) rfl (by kernel_rfl) (by kernel_rfl) (by kernel_rfl) (fun _ _ _ h => h) (Or.inl ⟨by kernel_rfl, ?_⟩) hHeld ?_
         ·
          intro wz hSw
          go_simp
         refine wpAnyH_take (i := 9) (v := .pointer (some ⟨W.heap.size + 1 + 1, 1, none⟩)) rfl (by kernel_rfl) (by kernel_rfl) (by kernel_rfl) (fun _ _ _ h => h) (Or.inl ⟨by kernel_rfl, ?_⟩) hHeld ?_
         ·
          intro wz hSw
          go_simp
         refine wpAnyH_take (i := 10) (v := .slice At nt ct) rfl (by kernel_rfl) (by kernel_rfl) (by kernel_rfl) (fun _ _ _ h => h) (Or.inl ⟨by kernel_rfl, ?_⟩) hHeld ?_
         ·
          intro wz hSw
          have hh := (hSw.cell (p := ⟨W.heap.size + 1 + 1, 1, none⟩) (by have := HZd.out; dsimp only; omega)).trans HT1.out
          go_simp
         try simp only [Act.put, List.getElem_toArray, List.getElem_cons_succ, List.getElem_cons_zero, List.setIfInBounds_toArray, List.set_cons_zero, List.set_cons_succ]
         refine wpAnyH_take (i := 11) (v := .int .i64 1) rfl (by kernel_rfl) (by kernel_rfl) (by kernel_rfl) (fun _ _ _ h => h) (Or.inl ⟨by kernel_rfl, ?_⟩) hHeld ?_
         ·
          intro wz hSw
          go_simp
         refine wpAnyH_take (i := 12) (v := .int .i64 0) rfl (by kernel_rfl) (by kernel_rfl) (by kernel_rfl) (fun _ _ _ h => h) (Or.inl ⟨by kernel_rfl, ?_⟩) hHeld ?_
         ·
          intro wz hSw
          go_simp
          first | done | ((try rw [Int.tdiv_eq_ediv_of_nonneg (by omega)]); (try rw [Int.tmod_eq_emod_of_nonneg (by omega)]); (try rw [IntKind.wrap_i64]); (try omega))
         refine wpAnyH_take (i := 13) (v := .pointer (some ⟨W.heap.size + 1, 0, none⟩)) rfl (by kernel_rfl) (by kernel_rfl) (by kernel_rfl) (fun _ _ _ h => h) (Or.inl ⟨by kernel_rfl, ?_⟩) hHeld ?_
         ·
          intro wz hSw
          go_simp
         refine wpAnyH_take (i := 14) (v := .slice As ns cs) rfl (by kernel_rfl) (by kernel_rfl) (by kernel_rfl) (fun _ _ _ h => h) (Or.inl ⟨by kernel_rfl, ?_⟩) hHeld ?_
         ·
          intro wz hSw
          have hh := (hSw.cell (p := ⟨W.heap.size + 1, 0, none⟩) (by have := HZd.out; dsimp only; omega)).trans HS1.out
          go_simp
         refine wpAnyH_take (i := 15) (v := .int .i64 nt) rfl (by kernel_rfl) (by kernel_rfl) (by kernel_rfl) (fun _ _ _ h => h) (Or.inl ⟨by kernel_rfl, ?_⟩) hHeld ?_
         ·
          intro wz hSw
          go_simp
         try simp only [Act.put, List.getElem_toArray, List.getElem_cons_succ, List.getElem_cons_zero, List.setIfInBounds_toArray, List.set_cons_zero, List.set_cons_succ]
         refine wpAnyH_take (i := 16) (v := .slice As nt cs) rfl (by kernel_rfl) (by kernel_rfl) (by kernel_rfl) (fun _ _ _ h => h) (Or.inl ⟨by kernel_rfl, ?_⟩) hHeld ?_
         ·
          intro wz hSw
          go_simp
          first | done | (intro hbad; omega)
         have hsm := same_any wd (.slice At nt ct) (.slice As nt cs) (l 3) ((l 0).take nt) HOTd.out.1 (by have h := HOSd.out.take nt (by rw [← HNS.out]; exact hle); rw [sliced0] at h; exact h.1)
         rw [HEQ.out, sameB_self] at hsm
         refine wpAnyH_ready (rs := [17]) (by kernel_rfl) (by simp) ?_
         refine (AllReadyH.cons rfl (fun Kc hK => ?_) AllReadyH.nil)
         go_simp
         go_at_call 16
         refine hsm.mono ?_
         rintro er w6 ⟨rfl, nq, hw6⟩
         have hb : Below wd.heap.size wd w6 := by rw [hw6]; exact belowDrewN wd nq
         have HB6 := Lib.hid (HBd.out.trans (hb.mono HBd.out.size))
         have HD6 := Lib.hid (HTd.out.below hb)
         have HS6 := Lib.hid hb
         clear hb hsm HTd HBd HOTd HOSd HT1 HS1 HZd hw6
         go_wp2_with fail
         refine hK.out _ _ HS6.out (fun hHeld => ?_)
         clear hK Kc
         try simp only [Act.put, List.getElem_toArray, List.getElem_cons_succ, List.getElem_cons_zero, List.setIfInBounds_toArray, List.set_cons_zero, List.set_cons_succ]
         refine wpAnyH_take (i := 18) (v := .bool false) rfl (by kernel_rfl) (by kernel_rfl) (by kernel_rfl) (fun _ _ _ h => h) (Or.inl ⟨by kernel_rfl, ?_⟩) hHeld ?_
         ·
          intro wz hSw
          go_simp
         refine wpAnyH_take (i := 19) (v := .bool false) rfl (by kernel_rfl) (by kernel_rfl) (by kernel_rfl) (fun _ _ _ h => h) (Or.inl ⟨by kernel_rfl, ?_⟩) hHeld ?_
         ·
          intro wz hSw
          go_simp
         refine wpAnyH_done (by kernel_rfl) ?_ _
         refine NoPanic.normal ?_
         go_wp2_with fail
         refine ⟨?_, ?measure⟩
         (repeat apply Exists.intro)
         refine ⟨?rel, rfl⟩
         case rel => exact ⟨1 + 1, by decide, by go_num, HD6.out, HB6.out⟩
         case measure => simp [intOf]
        ·
         go_wp2_with fail
         refine (HAW.out _).mono ?_
         rintro e w' ⟨rfl, hb⟩
         have HBZ := Lib.hid ((HB.out).trans (hb.mono (HB.out).size))
         clear hb
         go_wp2_with fail
         go_ret
         exact ⟨rfl, HBZ.out⟩
end Go.Proofs.Ytjgjhjecgdndjaa
