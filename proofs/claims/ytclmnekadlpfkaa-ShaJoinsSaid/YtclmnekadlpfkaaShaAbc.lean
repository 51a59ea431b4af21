/- The sum of "abc", word by word (printed by gen-abc.py). -/
import Derived.Test.YtclmnekadlpfkaaShaPlain
namespace Go.Proofs.Ytclmnekadlpfkaa
open Go.RowKit
def bAbc : List UInt8 := [97, 98, 99, 128, 0, 0, 0, 0, 0, 0, 0, 0, 0, 0, 0, 0, 0, 0, 0, 0, 0, 0, 0, 0, 0, 0, 0, 0, 0, 0, 0, 0, 0, 0, 0, 0, 0, 0, 0, 0, 0, 0, 0, 0, 0, 0, 0, 0, 0, 0, 0, 0, 0, 0, 0, 0, 0, 0, 0, 0, 0, 0, 0, 24]
theorem abcW0 : wAt bAbc 0 = 1633837952 := by rw [wAt_lo _ _ (by decide)]; decide +kernel
theorem abcW1 : wAt bAbc 1 = 0 := by rw [wAt_lo _ _ (by decide)]; decide +kernel
theorem abcW2 : wAt bAbc 2 = 0 := by rw [wAt_lo _ _ (by decide)]; decide +kernel
theorem abcW3 : wAt bAbc 3 = 0 := by rw [wAt_lo _ _ (by decide)]; decide +kernel
theorem abcW4 : wAt bAbc 4 = 0 := by rw [wAt_lo _ _ (by decide)]; decide +kernel
theorem abcW5 : wAt bAbc 5 = 0 := by rw [wAt_lo _ _ (by decide)]; decide +kernel
theorem abcW6 : wAt bAbc 6 = 0 := by rw [wAt_lo _ _ (by decide)]; decide +kernel
theorem abcW7 : wAt bAbc 7 = 0 := by rw [wAt_lo _ _ (by decide)]; decide +kernel
theorem abcW8 : wAt bAbc 8 = 0 := by rw [wAt_lo _ _ (by decide)]; decide +kernel
theorem abcW9 : wAt bAbc 9 = 0 := by rw [wAt_lo _ _ (by decide)]; decide +kernel
theorem abcW10 : wAt bAbc 10 = 0 := by rw [wAt_lo _ _ (by decide)]; decide +kernel
theorem abcW11 : wAt bAbc 11 = 0 := by rw [wAt_lo _ _ (by decide)]; decide +kernel
theorem abcW12 : wAt bAbc 12 = 0 := by rw [wAt_lo _ _ (by decide)]; decide +kernel
theorem abcW13 : wAt bAbc 13 = 0 := by rw [wAt_lo _ _ (by decide)]; decide +kernel
theorem abcW14 : wAt bAbc 14 = 0 := by rw [wAt_lo _ _ (by decide)]; decide +kernel
theorem abcW15 : wAt bAbc 15 = 24 := by rw [wAt_lo _ _ (by decide)]; decide +kernel
theorem abcW16 : wAt bAbc 16 = 1633837952 := by
  rw [wAt_hi _ _ (by decide)]
  show uA (uA (uA (wAt bAbc 0) (sg0 (wAt bAbc 1))) (wAt bAbc 9)) (sg1 (wAt bAbc 14)) = _
  rw [abcW0, abcW1, abcW9, abcW14]; decide +kernel
theorem abcW17 : wAt bAbc 17 = 983040 := by
  rw [wAt_hi _ _ (by decide)]
  show uA (uA (uA (wAt bAbc 1) (sg0 (wAt bAbc 2))) (wAt bAbc 10)) (sg1 (wAt bAbc 15)) = _
  rw [abcW1, abcW2, abcW10, abcW15]; decide +kernel
theorem abcW18 : wAt bAbc 18 = 2108187653 := by
  rw [wAt_hi _ _ (by decide)]
  show uA (uA (uA (wAt bAbc 2) (sg0 (wAt bAbc 3))) (wAt bAbc 11)) (sg1 (wAt bAbc 16)) = _
  rw [abcW2, abcW3, abcW11, abcW16]; decide +kernel
theorem abcW19 : wAt bAbc 19 = 1610613702 := by
  rw [wAt_hi _ _ (by decide)]
  show uA (uA (uA (wAt bAbc 3) (sg0 (wAt bAbc 4))) (wAt bAbc 12)) (sg1 (wAt bAbc 17)) = _
  rw [abcW3, abcW4, abcW12, abcW17]; decide +kernel
theorem abcW20 : wAt bAbc 20 = 1050508152 := by
  rw [wAt_hi _ _ (by decide)]
  show uA (uA (uA (wAt bAbc 4) (sg0 (wAt bAbc 5))) (wAt bAbc 13)) (sg1 (wAt bAbc 18)) = _
  rw [abcW4, abcW5, abcW13, abcW18]; decide +kernel
theorem abcW21 : wAt bAbc 21 = 25426944 := by
  rw [wAt_hi _ _ (by decide)]
  show uA (uA (uA (wAt bAbc 5) (sg0 (wAt bAbc 6))) (wAt bAbc 14)) (sg1 (wAt bAbc 19)) = _
  rw [abcW5, abcW6, abcW14, abcW19]; decide +kernel
theorem abcW22 : wAt bAbc 22 = 316456923 := by
  rw [wAt_hi _ _ (by decide)]
  show uA (uA (uA (wAt bAbc 6) (sg0 (wAt bAbc 7))) (wAt bAbc 15)) (sg1 (wAt bAbc 20)) = _
  rw [abcW6, abcW7, abcW15, abcW20]; decide +kernel
theorem abcW23 : wAt bAbc 23 = 3806512014 := by
  rw [wAt_hi _ _ (by decide)]
  show uA (uA (uA (wAt bAbc 7) (sg0 (wAt bAbc 8))) (wAt bAbc 16)) (sg1 (wAt bAbc 21)) = _
  rw [abcW7, abcW8, abcW16, abcW21]; decide +kernel
theorem abcW24 : wAt bAbc 24 = 3357629466 := by
  rw [wAt_hi _ _ (by decide)]
  show uA (uA (uA (wAt bAbc 8) (sg0 (wAt bAbc 9))) (wAt bAbc 17)) (sg1 (wAt bAbc 22)) = _
  rw [abcW8, abcW9, abcW17, abcW22]; decide +kernel
theorem abcW25 : wAt bAbc 25 = 3073800610 := by
  rw [wAt_hi _ _ (by decide)]
  show uA (uA (uA (wAt bAbc 9) (sg0 (wAt bAbc 10))) (wAt bAbc 18)) (sg1 (wAt bAbc 23)) = _
  rw [abcW9, abcW10, abcW18, abcW23]; decide +kernel
theorem abcW26 : wAt bAbc 26 = 3854317833 := by
  rw [wAt_hi _ _ (by decide)]
  show uA (uA (uA (wAt bAbc 10) (sg0 (wAt bAbc 11))) (wAt bAbc 19)) (sg1 (wAt bAbc 24)) = _
  rw [abcW10, abcW11, abcW19, abcW24]; decide +kernel
theorem abcW27 : wAt bAbc 27 = 845560923 := by
  rw [wAt_hi _ _ (by decide)]
  show uA (uA (uA (wAt bAbc 11) (sg0 (wAt bAbc 12))) (wAt bAbc 20)) (sg1 (wAt bAbc 25)) = _
  rw [abcW11, abcW12, abcW20, abcW25]; decide +kernel
theorem abcW28 : wAt bAbc 28 = 2636160359 := by
  rw [wAt_hi _ _ (by decide)]
  show uA (uA (uA (wAt bAbc 12) (sg0 (wAt bAbc 13))) (wAt bAbc 21)) (sg1 (wAt bAbc 26)) = _
  rw [abcW12, abcW13, abcW21, abcW26]; decide +kernel
theorem abcW29 : wAt bAbc 29 = 3968280267 := by
  rw [wAt_hi _ _ (by decide)]
  show uA (uA (uA (wAt bAbc 13) (sg0 (wAt bAbc 14))) (wAt bAbc 22)) (sg1 (wAt bAbc 27)) = _
  rw [abcW13, abcW14, abcW22, abcW27]; decide +kernel
theorem abcW30 : wAt bAbc 30 = 1881225380 := by
  rw [wAt_hi _ _ (by decide)]
  show uA (uA (uA (wAt bAbc 14) (sg0 (wAt bAbc 15))) (wAt bAbc 23)) (sg1 (wAt bAbc 28)) = _
  rw [abcW14, abcW15, abcW23, abcW28]; decide +kernel
theorem abcW31 : wAt bAbc 31 = 3552024379 := by
  rw [wAt_hi _ _ (by decide)]
  show uA (uA (uA (wAt bAbc 15) (sg0 (wAt bAbc 16))) (wAt bAbc 24)) (sg1 (wAt bAbc 29)) = _
  rw [abcW15, abcW16, abcW24, abcW29]; decide +kernel
theorem abcW32 : wAt bAbc 32 = 2482346367 := by
  rw [wAt_hi _ _ (by decide)]
  show uA (uA (uA (wAt bAbc 16) (sg0 (wAt bAbc 17))) (wAt bAbc 25)) (sg1 (wAt bAbc 30)) = _
  rw [abcW16, abcW17, abcW25, abcW30]; decide +kernel
theorem abcW33 : wAt bAbc 33 = 996719219 := by
  rw [wAt_hi _ _ (by decide)]
  show uA (uA (uA (wAt bAbc 17) (sg0 (wAt bAbc 18))) (wAt bAbc 26)) (sg1 (wAt bAbc 31)) = _
  rw [abcW17, abcW18, abcW26, abcW31]; decide +kernel
theorem abcW34 : wAt bAbc 34 = 2952069057 := by
  rw [wAt_hi _ _ (by decide)]
  show uA (uA (uA (wAt bAbc 18) (sg0 (wAt bAbc 19))) (wAt bAbc 27)) (sg1 (wAt bAbc 32)) = _
  rw [abcW18, abcW19, abcW27, abcW32]; decide +kernel
theorem abcW35 : wAt bAbc 35 = 4043988066 := by
  rw [wAt_hi _ _ (by decide)]
  show uA (uA (uA (wAt bAbc 19) (sg0 (wAt bAbc 20))) (wAt bAbc 28)) (sg1 (wAt bAbc 33)) = _
  rw [abcW19, abcW20, abcW28, abcW33]; decide +kernel
theorem abcW36 : wAt bAbc 36 = 176896406 := by
  rw [wAt_hi _ _ (by decide)]
  show uA (uA (uA (wAt bAbc 20) (sg0 (wAt bAbc 21))) (wAt bAbc 29)) (sg1 (wAt bAbc 34)) = _
  rw [abcW20, abcW21, abcW29, abcW34]; decide +kernel
theorem abcW37 : wAt bAbc 37 = 1924104970 := by
  rw [wAt_hi _ _ (by decide)]
  show uA (uA (uA (wAt bAbc 21) (sg0 (wAt bAbc 22))) (wAt bAbc 30)) (sg1 (wAt bAbc 35)) = _
  rw [abcW21, abcW22, abcW30, abcW35]; decide +kernel
theorem abcW38 : wAt bAbc 38 = 2483675966 := by
  rw [wAt_hi _ _ (by decide)]
  show uA (uA (uA (wAt bAbc 22) (sg0 (wAt bAbc 23))) (wAt bAbc 31)) (sg1 (wAt bAbc 36)) = _
  rw [abcW22, abcW23, abcW31, abcW36]; decide +kernel
theorem abcW39 : wAt bAbc 39 = 610538786 := by
  rw [wAt_hi _ _ (by decide)]
  show uA (uA (uA (wAt bAbc 23) (sg0 (wAt bAbc 24))) (wAt bAbc 32)) (sg1 (wAt bAbc 37)) = _
  rw [abcW23, abcW24, abcW32, abcW37]; decide +kernel
theorem abcW40 : wAt bAbc 40 = 2672279444 := by
  rw [wAt_hi _ _ (by decide)]
  show uA (uA (uA (wAt bAbc 24) (sg0 (wAt bAbc 25))) (wAt bAbc 33)) (sg1 (wAt bAbc 38)) = _
  rw [abcW24, abcW25, abcW33, abcW38]; decide +kernel
theorem abcW41 : wAt bAbc 41 = 4037431130 := by
  rw [wAt_hi _ _ (by decide)]
  show uA (uA (uA (wAt bAbc 25) (sg0 (wAt bAbc 26))) (wAt bAbc 34)) (sg1 (wAt bAbc 39)) = _
  rw [abcW25, abcW26, abcW34, abcW39]; decide +kernel
theorem abcW42 : wAt bAbc 42 = 1042573945 := by
  rw [wAt_hi _ _ (by decide)]
  show uA (uA (uA (wAt bAbc 26) (sg0 (wAt bAbc 27))) (wAt bAbc 35)) (sg1 (wAt bAbc 40)) = _
  rw [abcW26, abcW27, abcW35, abcW40]; decide +kernel
theorem abcW43 : wAt bAbc 43 = 657669027 := by
  rw [wAt_hi _ _ (by decide)]
  show uA (uA (uA (wAt bAbc 27) (sg0 (wAt bAbc 28))) (wAt bAbc 36)) (sg1 (wAt bAbc 41)) = _
  rw [abcW27, abcW28, abcW36, abcW41]; decide +kernel
theorem abcW44 : wAt bAbc 44 = 206005234 := by
  rw [wAt_hi _ _ (by decide)]
  show uA (uA (uA (wAt bAbc 28) (sg0 (wAt bAbc 29))) (wAt bAbc 37)) (sg1 (wAt bAbc 42)) = _
  rw [abcW28, abcW29, abcW37, abcW42]; decide +kernel
theorem abcW45 : wAt bAbc 45 = 2215296807 := by
  rw [wAt_hi _ _ (by decide)]
  show uA (uA (uA (wAt bAbc 29) (sg0 (wAt bAbc 30))) (wAt bAbc 38)) (sg1 (wAt bAbc 43)) = _
  rw [abcW29, abcW30, abcW38, abcW43]; decide +kernel
theorem abcW46 : wAt bAbc 46 = 2049510749 := by
  rw [wAt_hi _ _ (by decide)]
  show uA (uA (uA (wAt bAbc 30) (sg0 (wAt bAbc 31))) (wAt bAbc 39)) (sg1 (wAt bAbc 44)) = _
  rw [abcW30, abcW31, abcW39, abcW44]; decide +kernel
theorem abcW47 : wAt bAbc 47 = 106709978 := by
  rw [wAt_hi _ _ (by decide)]
  show uA (uA (uA (wAt bAbc 31) (sg0 (wAt bAbc 32))) (wAt bAbc 40)) (sg1 (wAt bAbc 45)) = _
  rw [abcW31, abcW32, abcW40, abcW45]; decide +kernel
theorem abcW48 : wAt bAbc 48 = 4215179723 := by
  rw [wAt_hi _ _ (by decide)]
  show uA (uA (uA (wAt bAbc 32) (sg0 (wAt bAbc 33))) (wAt bAbc 41)) (sg1 (wAt bAbc 46)) = _
  rw [abcW32, abcW33, abcW41, abcW46]; decide +kernel
theorem abcW49 : wAt bAbc 49 = 3430291419 := by
  rw [wAt_hi _ _ (by decide)]
  show uA (uA (uA (wAt bAbc 33) (sg0 (wAt bAbc 34))) (wAt bAbc 42)) (sg1 (wAt bAbc 47)) = _
  rw [abcW33, abcW34, abcW42, abcW47]; decide +kernel
theorem abcW50 : wAt bAbc 50 = 3118885940 := by
  rw [wAt_hi _ _ (by decide)]
  show uA (uA (uA (wAt bAbc 34) (sg0 (wAt bAbc 35))) (wAt bAbc 43)) (sg1 (wAt bAbc 48)) = _
  rw [abcW34, abcW35, abcW43, abcW48]; decide +kernel
theorem abcW51 : wAt bAbc 51 = 2845390439 := by
  rw [wAt_hi _ _ (by decide)]
  show uA (uA (uA (wAt bAbc 35) (sg0 (wAt bAbc 36))) (wAt bAbc 44)) (sg1 (wAt bAbc 49)) = _
  rw [abcW35, abcW36, abcW44, abcW49]; decide +kernel
theorem abcW52 : wAt bAbc 52 = 2226839261 := by
  rw [wAt_hi _ _ (by decide)]
  show uA (uA (uA (wAt bAbc 36) (sg0 (wAt bAbc 37))) (wAt bAbc 45)) (sg1 (wAt bAbc 50)) = _
  rw [abcW36, abcW37, abcW45, abcW50]; decide +kernel
theorem abcW53 : wAt bAbc 53 = 3256115900 := by
  rw [wAt_hi _ _ (by decide)]
  show uA (uA (uA (wAt bAbc 37) (sg0 (wAt bAbc 38))) (wAt bAbc 46)) (sg1 (wAt bAbc 51)) = _
  rw [abcW37, abcW38, abcW46, abcW51]; decide +kernel
theorem abcW54 : wAt bAbc 54 = 344409900 := by
  rw [wAt_hi _ _ (by decide)]
  show uA (uA (uA (wAt bAbc 38) (sg0 (wAt bAbc 39))) (wAt bAbc 47)) (sg1 (wAt bAbc 52)) = _
  rw [abcW38, abcW39, abcW47, abcW52]; decide +kernel
theorem abcW55 : wAt bAbc 55 = 2987358873 := by
  rw [wAt_hi _ _ (by decide)]
  show uA (uA (uA (wAt bAbc 39) (sg0 (wAt bAbc 40))) (wAt bAbc 48)) (sg1 (wAt bAbc 53)) = _
  rw [abcW39, abcW40, abcW48, abcW53]; decide +kernel
theorem abcW56 : wAt bAbc 56 = 4015503821 := by
  rw [wAt_hi _ _ (by decide)]
  show uA (uA (uA (wAt bAbc 40) (sg0 (wAt bAbc 41))) (wAt bAbc 49)) (sg1 (wAt bAbc 54)) = _
  rw [abcW40, abcW41, abcW49, abcW54]; decide +kernel
theorem abcW57 : wAt bAbc 57 = 3957764664 := by
  rw [wAt_hi _ _ (by decide)]
  show uA (uA (uA (wAt bAbc 41) (sg0 (wAt bAbc 42))) (wAt bAbc 50)) (sg1 (wAt bAbc 55)) = _
  rw [abcW41, abcW42, abcW50, abcW55]; decide +kernel
theorem abcW58 : wAt bAbc 58 = 2682456414 := by
  rw [wAt_hi _ _ (by decide)]
  show uA (uA (uA (wAt bAbc 42) (sg0 (wAt bAbc 43))) (wAt bAbc 51)) (sg1 (wAt bAbc 56)) = _
  rw [abcW42, abcW43, abcW51, abcW56]; decide +kernel
theorem abcW59 : wAt bAbc 59 = 2025622859 := by
  rw [wAt_hi _ _ (by decide)]
  show uA (uA (uA (wAt bAbc 43) (sg0 (wAt bAbc 44))) (wAt bAbc 52)) (sg1 (wAt bAbc 57)) = _
  rw [abcW43, abcW44, abcW52, abcW57]; decide +kernel
theorem abcW60 : wAt bAbc 60 = 2755645205 := by
  rw [wAt_hi _ _ (by decide)]
  show uA (uA (uA (wAt bAbc 44) (sg0 (wAt bAbc 45))) (wAt bAbc 53)) (sg1 (wAt bAbc 58)) = _
  rw [abcW44, abcW45, abcW53, abcW58]; decide +kernel
theorem abcW61 : wAt bAbc 61 = 1720397816 := by
  rw [wAt_hi _ _ (by decide)]
  show uA (uA (uA (wAt bAbc 45) (sg0 (wAt bAbc 46))) (wAt bAbc 54)) (sg1 (wAt bAbc 59)) = _
  rw [abcW45, abcW46, abcW54, abcW59]; decide +kernel
theorem abcW62 : wAt bAbc 62 = 4004225740 := by
  rw [wAt_hi _ _ (by decide)]
  show uA (uA (uA (wAt bAbc 46) (sg0 (wAt bAbc 47))) (wAt bAbc 55)) (sg1 (wAt bAbc 60)) = _
  rw [abcW46, abcW47, abcW55, abcW60]; decide +kernel
theorem abcW63 : wAt bAbc 63 = 313650667 := by
  rw [wAt_hi _ _ (by decide)]
  show uA (uA (uA (wAt bAbc 47) (sg0 (wAt bAbc 48))) (wAt bAbc 56)) (sg1 (wAt bAbc 61)) = _
  rw [abcW47, abcW48, abcW56, abcW61]; decide +kernel
def v0 : V8 := ofF (fun i => shaFirst.getD i 0)
theorem abcV0 : rounds8 v0 bAbc 0 = ⟨1779033703, 3144134277, 1013904242, 2773480762, 1359893119, 2600822924, 528734635, 1541459225⟩ := by kernel_rfl
theorem abcV1 : rounds8 v0 bAbc 1 = ⟨1567288269, 1779033703, 3144134277, 1013904242, 4197074466, 1359893119, 2600822924, 528734635⟩ := by
  show step8 (rounds8 v0 bAbc 0) (shaK 0) (wAt bAbc 0) = _
  rw [abcV0, abcW0]; kernel_rfl
theorem abcV2 : rounds8 v0 bAbc 2 = ⟨1516951981, 1567288269, 1779033703, 3144134277, 2026797449, 4197074466, 1359893119, 2600822924⟩ := by
  show step8 (rounds8 v0 bAbc 1) (shaK 1) (wAt bAbc 1) = _
  rw [abcV1, abcW1]; kernel_rfl
theorem abcV3 : rounds8 v0 bAbc 3 = ⟨3368241063, 1516951981, 1567288269, 1779033703, 4180228587, 2026797449, 4197074466, 1359893119⟩ := by
  show step8 (rounds8 v0 bAbc 2) (shaK 2) (wAt bAbc 2) = _
  rw [abcV2, abcW2]; kernel_rfl
theorem abcV4 : rounds8 v0 bAbc 4 = ⟨3578852966, 3368241063, 1516951981, 1567288269, 618661968, 4180228587, 2026797449, 4197074466⟩ := by
  show step8 (rounds8 v0 bAbc 3) (shaK 3) (wAt bAbc 3) = _
  rw [abcV3, abcW3]; kernel_rfl
theorem abcV5 : rounds8 v0 bAbc 5 = ⟨71342698, 3578852966, 3368241063, 1516951981, 1135452741, 618661968, 4180228587, 2026797449⟩ := by
  show step8 (rounds8 v0 bAbc 4) (shaK 4) (wAt bAbc 4) = _
  rw [abcV4, abcW4]; kernel_rfl
theorem abcV6 : rounds8 v0 bAbc 6 = ⟨725748213, 71342698, 3578852966, 3368241063, 1900175533, 1135452741, 618661968, 4180228587⟩ := by
  show step8 (rounds8 v0 bAbc 5) (shaK 5) (wAt bAbc 5) = _
  rw [abcV5, abcW5]; kernel_rfl
theorem abcV7 : rounds8 v0 bAbc 7 = ⟨3842179968, 725748213, 71342698, 3578852966, 2603066369, 1900175533, 1135452741, 618661968⟩ := by
  show step8 (rounds8 v0 bAbc 6) (shaK 6) (wAt bAbc 6) = _
  rw [abcV6, abcW6]; kernel_rfl
theorem abcV8 : rounds8 v0 bAbc 8 = ⟨2241887071, 3842179968, 725748213, 71342698, 207977081, 2603066369, 1900175533, 1135452741⟩ := by
  show step8 (rounds8 v0 bAbc 7) (shaK 7) (wAt bAbc 7) = _
  rw [abcV7, abcW7]; kernel_rfl
theorem abcV9 : rounds8 v0 bAbc 9 = ⟨2382687417, 2241887071, 3842179968, 725748213, 852110732, 207977081, 2603066369, 1900175533⟩ := by
  show step8 (rounds8 v0 bAbc 8) (shaK 8) (wAt bAbc 8) = _
  rw [abcV8, abcW8]; kernel_rfl
theorem abcV10 : rounds8 v0 bAbc 10 = ⟨2357671019, 2382687417, 2241887071, 3842179968, 482944406, 852110732, 207977081, 2603066369⟩ := by
  show step8 (rounds8 v0 bAbc 9) (shaK 9) (wAt bAbc 9) = _
  rw [abcV9, abcW9]; kernel_rfl
theorem abcV11 : rounds8 v0 bAbc 11 = ⟨1201185780, 2357671019, 2382687417, 2241887071, 1131095016, 482944406, 852110732, 207977081⟩ := by
  show step8 (rounds8 v0 bAbc 10) (shaK 10) (wAt bAbc 10) = _
  rw [abcV10, abcW10]; kernel_rfl
theorem abcV12 : rounds8 v0 bAbc 12 = ⟨4146054569, 1201185780, 2357671019, 2382687417, 2171590377, 1131095016, 482944406, 852110732⟩ := by
  show step8 (rounds8 v0 bAbc 11) (shaK 11) (wAt bAbc 11) = _
  rw [abcV11, abcW11]; kernel_rfl
theorem abcV13 : rounds8 v0 bAbc 13 = ⟨2274437520, 4146054569, 1201185780, 2357671019, 509051416, 2171590377, 1131095016, 482944406⟩ := by
  show step8 (rounds8 v0 bAbc 12) (shaK 12) (wAt bAbc 12) = _
  rw [abcV12, abcW12]; kernel_rfl
theorem abcV14 : rounds8 v0 bAbc 14 = ⟨3643992854, 2274437520, 4146054569, 1201185780, 1952073950, 509051416, 2171590377, 1131095016⟩ := by
  show step8 (rounds8 v0 bAbc 13) (shaK 13) (wAt bAbc 13) = _
  rw [abcV13, abcW13]; kernel_rfl
theorem abcV15 : rounds8 v0 bAbc 15 = ⟨3227803614, 3643992854, 2274437520, 4146054569, 194179596, 1952073950, 509051416, 2171590377⟩ := by
  show step8 (rounds8 v0 bAbc 14) (shaK 14) (wAt bAbc 14) = _
  rw [abcV14, abcW14]; kernel_rfl
theorem abcV16 : rounds8 v0 bAbc 16 = ⟨2969183118, 3227803614, 3643992854, 2274437520, 123276749, 194179596, 1952073950, 509051416⟩ := by
  show step8 (rounds8 v0 bAbc 15) (shaK 15) (wAt bAbc 15) = _
  rw [abcV15, abcW15]; kernel_rfl
theorem abcV17 : rounds8 v0 bAbc 17 = ⟨567974555, 2969183118, 3227803614, 3643992854, 2150900380, 123276749, 194179596, 1952073950⟩ := by
  show step8 (rounds8 v0 bAbc 16) (shaK 16) (wAt bAbc 16) = _
  rw [abcV16, abcW16]; kernel_rfl
theorem abcV18 : rounds8 v0 bAbc 18 = ⟨3271285201, 567974555, 2969183118, 3227803614, 2221859924, 2150900380, 123276749, 194179596⟩ := by
  show step8 (rounds8 v0 bAbc 17) (shaK 17) (wAt bAbc 17) = _
  rw [abcV17, abcW17]; kernel_rfl
theorem abcV19 : rounds8 v0 bAbc 19 = ⟨4269243327, 3271285201, 567974555, 2969183118, 3431569761, 2221859924, 2150900380, 123276749⟩ := by
  show step8 (rounds8 v0 bAbc 18) (shaK 18) (wAt bAbc 18) = _
  rw [abcV18, abcW18]; kernel_rfl
theorem abcV20 : rounds8 v0 bAbc 20 = ⟨3790736435, 4269243327, 3271285201, 567974555, 2959311225, 3431569761, 2221859924, 2150900380⟩ := by
  show step8 (rounds8 v0 bAbc 19) (shaK 19) (wAt bAbc 19) = _
  rw [abcV19, abcW19]; kernel_rfl
theorem abcV21 : rounds8 v0 bAbc 21 = ⟨2647034723, 3790736435, 4269243327, 3271285201, 2329577776, 2959311225, 3431569761, 2221859924⟩ := by
  show step8 (rounds8 v0 bAbc 20) (shaK 20) (wAt bAbc 20) = _
  rw [abcV20, abcW20]; kernel_rfl
theorem abcV22 : rounds8 v0 bAbc 22 = ⟨3261099373, 2647034723, 3790736435, 4269243327, 3777329520, 2329577776, 2959311225, 3431569761⟩ := by
  show step8 (rounds8 v0 bAbc 21) (shaK 21) (wAt bAbc 21) = _
  rw [abcV21, abcW21]; kernel_rfl
theorem abcV23 : rounds8 v0 bAbc 23 = ⟨2812502591, 3261099373, 2647034723, 3790736435, 1240797514, 3777329520, 2329577776, 2959311225⟩ := by
  show step8 (rounds8 v0 bAbc 22) (shaK 22) (wAt bAbc 22) = _
  rw [abcV22, abcW22]; kernel_rfl
theorem abcV24 : rounds8 v0 bAbc 24 = ⟨3319086477, 2812502591, 3261099373, 2647034723, 2856829767, 1240797514, 3777329520, 2329577776⟩ := by
  show step8 (rounds8 v0 bAbc 23) (shaK 23) (wAt bAbc 23) = _
  rw [abcV23, abcW23]; kernel_rfl
theorem abcV25 : rounds8 v0 bAbc 25 = ⟨472655928, 3319086477, 2812502591, 3261099373, 673443729, 2856829767, 1240797514, 3777329520⟩ := by
  show step8 (rounds8 v0 bAbc 24) (shaK 24) (wAt bAbc 24) = _
  rw [abcV24, abcW24]; kernel_rfl
theorem abcV26 : rounds8 v0 bAbc 26 = ⟨3454534525, 472655928, 3319086477, 2812502591, 339230094, 673443729, 2856829767, 1240797514⟩ := by
  show step8 (rounds8 v0 bAbc 25) (shaK 25) (wAt bAbc 25) = _
  rw [abcV25, abcW25]; kernel_rfl
theorem abcV27 : rounds8 v0 bAbc 27 = ⟨3056518332, 3454534525, 472655928, 3319086477, 3343672598, 339230094, 673443729, 2856829767⟩ := by
  show step8 (rounds8 v0 bAbc 26) (shaK 26) (wAt bAbc 26) = _
  rw [abcV26, abcW26]; kernel_rfl
theorem abcV28 : rounds8 v0 bAbc 28 = ⟨2010346792, 3056518332, 3454534525, 472655928, 3992961016, 3343672598, 339230094, 673443729⟩ := by
  show step8 (rounds8 v0 bAbc 27) (shaK 27) (wAt bAbc 27) = _
  rw [abcV27, abcW27]; kernel_rfl
theorem abcV29 : rounds8 v0 bAbc 29 = ⟨909411017, 2010346792, 3056518332, 3454534525, 1628611511, 3992961016, 3343672598, 339230094⟩ := by
  show step8 (rounds8 v0 bAbc 28) (shaK 28) (wAt bAbc 28) = _
  rw [abcV28, abcW28]; kernel_rfl
theorem abcV30 : rounds8 v0 bAbc 30 = ⟨2684750640, 909411017, 2010346792, 3056518332, 2917635127, 1628611511, 3992961016, 3343672598⟩ := by
  show step8 (rounds8 v0 bAbc 29) (shaK 29) (wAt bAbc 29) = _
  rw [abcV29, abcW29]; kernel_rfl
theorem abcV31 : rounds8 v0 bAbc 31 = ⟨3935906338, 2684750640, 909411017, 2010346792, 17410874, 2917635127, 1628611511, 3992961016⟩ := by
  show step8 (rounds8 v0 bAbc 30) (shaK 30) (wAt bAbc 30) = _
  rw [abcV30, abcW30]; kernel_rfl
theorem abcV32 : rounds8 v0 bAbc 32 = ⟨1941126133, 3935906338, 2684750640, 909411017, 3126399250, 17410874, 2917635127, 1628611511⟩ := by
  show step8 (rounds8 v0 bAbc 31) (shaK 31) (wAt bAbc 31) = _
  rw [abcV31, abcW31]; kernel_rfl
theorem abcV33 : rounds8 v0 bAbc 33 = ⟨2564891911, 1941126133, 3935906338, 2684750640, 2631529974, 3126399250, 17410874, 2917635127⟩ := by
  show step8 (rounds8 v0 bAbc 32) (shaK 32) (wAt bAbc 32) = _
  rw [abcV32, abcW32]; kernel_rfl
theorem abcV34 : rounds8 v0 bAbc 34 = ⟨4267724277, 2564891911, 1941126133, 3935906338, 1495571923, 2631529974, 3126399250, 17410874⟩ := by
  show step8 (rounds8 v0 bAbc 33) (shaK 33) (wAt bAbc 33) = _
  rw [abcV33, abcW33]; kernel_rfl
theorem abcV35 : rounds8 v0 bAbc 35 = ⟨2846323596, 4267724277, 2564891911, 1941126133, 140458035, 1495571923, 2631529974, 3126399250⟩ := by
  show step8 (rounds8 v0 bAbc 34) (shaK 34) (wAt bAbc 34) = _
  rw [abcV34, abcW34]; kernel_rfl
theorem abcV36 : rounds8 v0 bAbc 36 = ⟨1705037796, 2846323596, 4267724277, 2564891911, 4105175766, 140458035, 1495571923, 2631529974⟩ := by
  show step8 (rounds8 v0 bAbc 35) (shaK 35) (wAt bAbc 35) = _
  rw [abcV35, abcW35]; kernel_rfl
theorem abcV37 : rounds8 v0 bAbc 37 = ⟨1101421745, 1705037796, 2846323596, 4267724277, 124953195, 4105175766, 140458035, 1495571923⟩ := by
  show step8 (rounds8 v0 bAbc 36) (shaK 36) (wAt bAbc 36) = _
  rw [abcV36, abcW36]; kernel_rfl
theorem abcV38 : rounds8 v0 bAbc 38 = ⟨887035396, 1101421745, 1705037796, 2846323596, 2768741693, 124953195, 4105175766, 140458035⟩ := by
  show step8 (rounds8 v0 bAbc 37) (shaK 37) (wAt bAbc 37) = _
  rw [abcV37, abcW37]; kernel_rfl
theorem abcV39 : rounds8 v0 bAbc 39 = ⟨1841658506, 887035396, 1101421745, 1705037796, 4034403272, 2768741693, 124953195, 4105175766⟩ := by
  show step8 (rounds8 v0 bAbc 38) (shaK 38) (wAt bAbc 38) = _
  rw [abcV38, abcW38]; kernel_rfl
theorem abcV40 : rounds8 v0 bAbc 40 = ⟨2045405306, 1841658506, 887035396, 1101421745, 519815328, 4034403272, 2768741693, 124953195⟩ := by
  show step8 (rounds8 v0 bAbc 39) (shaK 39) (wAt bAbc 39) = _
  rw [abcV39, abcW39]; kernel_rfl
theorem abcV41 : rounds8 v0 bAbc 41 = ⟨3597076326, 2045405306, 1841658506, 887035396, 641019235, 519815328, 4034403272, 2768741693⟩ := by
  show step8 (rounds8 v0 bAbc 40) (shaK 40) (wAt bAbc 40) = _
  rw [abcV40, abcW40]; kernel_rfl
theorem abcV42 : rounds8 v0 bAbc 42 = ⟨3745932591, 3597076326, 2045405306, 1841658506, 2206934801, 641019235, 519815328, 4034403272⟩ := by
  show step8 (rounds8 v0 bAbc 41) (shaK 41) (wAt bAbc 41) = _
  rw [abcV41, abcW41]; kernel_rfl
theorem abcV43 : rounds8 v0 bAbc 43 = ⟨397020670, 3745932591, 3597076326, 2045405306, 3737995029, 2206934801, 641019235, 519815328⟩ := by
  show step8 (rounds8 v0 bAbc 42) (shaK 42) (wAt bAbc 42) = _
  rw [abcV42, abcW42]; kernel_rfl
theorem abcV44 : rounds8 v0 bAbc 44 = ⟨2638983059, 397020670, 3745932591, 3597076326, 4255271982, 3737995029, 2206934801, 641019235⟩ := by
  show step8 (rounds8 v0 bAbc 43) (shaK 43) (wAt bAbc 43) = _
  rw [abcV43, abcW43]; kernel_rfl
theorem abcV45 : rounds8 v0 bAbc 45 = ⟨643991573, 2638983059, 397020670, 3745932591, 2819559920, 4255271982, 3737995029, 2206934801⟩ := by
  show step8 (rounds8 v0 bAbc 44) (shaK 44) (wAt bAbc 44) = _
  rw [abcV44, abcW44]; kernel_rfl
theorem abcV46 : rounds8 v0 bAbc 46 = ⟨1923828625, 643991573, 2638983059, 397020670, 3077922209, 2819559920, 4255271982, 3737995029⟩ := by
  show step8 (rounds8 v0 bAbc 45) (shaK 45) (wAt bAbc 45) = _
  rw [abcV45, abcW45]; kernel_rfl
theorem abcV47 : rounds8 v0 bAbc 47 = ⟨2706117808, 1923828625, 643991573, 2638983059, 3581645993, 3077922209, 2819559920, 4255271982⟩ := by
  show step8 (rounds8 v0 bAbc 46) (shaK 46) (wAt bAbc 46) = _
  rw [abcV46, abcW46]; kernel_rfl
theorem abcV48 : rounds8 v0 bAbc 48 = ⟨1098003085, 2706117808, 1923828625, 643991573, 4274981830, 3581645993, 3077922209, 2819559920⟩ := by
  show step8 (rounds8 v0 bAbc 47) (shaK 47) (wAt bAbc 47) = _
  rw [abcV47, abcW47]; kernel_rfl
theorem abcV49 : rounds8 v0 bAbc 49 = ⟨91585771, 1098003085, 2706117808, 1923828625, 3178315832, 4274981830, 3581645993, 3077922209⟩ := by
  show step8 (rounds8 v0 bAbc 48) (shaK 48) (wAt bAbc 48) = _
  rw [abcV48, abcW48]; kernel_rfl
theorem abcV50 : rounds8 v0 bAbc 50 = ⟨4045142696, 91585771, 1098003085, 2706117808, 1851537676, 3178315832, 4274981830, 3581645993⟩ := by
  show step8 (rounds8 v0 bAbc 49) (shaK 49) (wAt bAbc 49) = _
  rw [abcV49, abcW49]; kernel_rfl
theorem abcV51 : rounds8 v0 bAbc 51 = ⟨2047150241, 4045142696, 91585771, 1098003085, 1391578359, 1851537676, 3178315832, 4274981830⟩ := by
  show step8 (rounds8 v0 bAbc 50) (shaK 50) (wAt bAbc 50) = _
  rw [abcV50, abcW50]; kernel_rfl
theorem abcV52 : rounds8 v0 bAbc 52 = ⟨2288941602, 2047150241, 4045142696, 91585771, 1227037726, 1391578359, 1851537676, 3178315832⟩ := by
  show step8 (rounds8 v0 bAbc 51) (shaK 51) (wAt bAbc 51) = _
  rw [abcV51, abcW51]; kernel_rfl
theorem abcV53 : rounds8 v0 bAbc 53 = ⟨270520975, 2288941602, 2047150241, 4045142696, 1386118400, 1227037726, 1391578359, 1851537676⟩ := by
  show step8 (rounds8 v0 bAbc 52) (shaK 52) (wAt bAbc 52) = _
  rw [abcV52, abcW52]; kernel_rfl
theorem abcV54 : rounds8 v0 bAbc 54 = ⟨4117770203, 270520975, 2288941602, 2047150241, 2672265155, 1386118400, 1227037726, 1391578359⟩ := by
  show step8 (rounds8 v0 bAbc 53) (shaK 53) (wAt bAbc 53) = _
  rw [abcV53, abcW53]; kernel_rfl
theorem abcV55 : rounds8 v0 bAbc 55 = ⟨1053056219, 4117770203, 270520975, 2288941602, 3842906959, 2672265155, 1386118400, 1227037726⟩ := by
  show step8 (rounds8 v0 bAbc 54) (shaK 54) (wAt bAbc 54) = _
  rw [abcV54, abcW54]; kernel_rfl
theorem abcV56 : rounds8 v0 bAbc 56 = ⟨952932627, 1053056219, 4117770203, 270520975, 1422599787, 3842906959, 2672265155, 1386118400⟩ := by
  show step8 (rounds8 v0 bAbc 55) (shaK 55) (wAt bAbc 55) = _
  rw [abcV55, abcW55]; kernel_rfl
theorem abcV57 : rounds8 v0 bAbc 57 = ⟨4241590395, 952932627, 1053056219, 4117770203, 2606665836, 1422599787, 3842906959, 2672265155⟩ := by
  show step8 (rounds8 v0 bAbc 56) (shaK 56) (wAt bAbc 56) = _
  rw [abcV56, abcW56]; kernel_rfl
theorem abcV58 : rounds8 v0 bAbc 58 = ⟨3227702383, 4241590395, 952932627, 1053056219, 2118385806, 2606665836, 1422599787, 3842906959⟩ := by
  show step8 (rounds8 v0 bAbc 57) (shaK 57) (wAt bAbc 57) = _
  rw [abcV57, abcW57]; kernel_rfl
theorem abcV59 : rounds8 v0 bAbc 59 = ⟨4290184306, 3227702383, 4241590395, 952932627, 1837350854, 2118385806, 2606665836, 1422599787⟩ := by
  show step8 (rounds8 v0 bAbc 58) (shaK 58) (wAt bAbc 58) = _
  rw [abcV58, abcW58]; kernel_rfl
theorem abcV60 : rounds8 v0 bAbc 60 = ⟨3064893439, 4290184306, 3227702383, 4241590395, 2988158269, 1837350854, 2118385806, 2606665836⟩ := by
  show step8 (rounds8 v0 bAbc 59) (shaK 59) (wAt bAbc 59) = _
  rw [abcV59, abcW59]; kernel_rfl
theorem abcV61 : rounds8 v0 bAbc 61 = ⟨3093179625, 3064893439, 4290184306, 3227702383, 2518632596, 2988158269, 1837350854, 2118385806⟩ := by
  show step8 (rounds8 v0 bAbc 60) (shaK 60) (wAt bAbc 60) = _
  rw [abcV60, abcW60]; kernel_rfl
theorem abcV62 : rounds8 v0 bAbc 62 = ⟨80891244, 3093179625, 3064893439, 4290184306, 2492278198, 2518632596, 2988158269, 1837350854⟩ := by
  show step8 (rounds8 v0 bAbc 61) (shaK 61) (wAt bAbc 61) = _
  rw [abcV61, abcW61]; kernel_rfl
theorem abcV63 : rounds8 v0 bAbc 63 = ⟨3550093669, 80891244, 3093179625, 3064893439, 4212265488, 2492278198, 2518632596, 2988158269⟩ := by
  show step8 (rounds8 v0 bAbc 62) (shaK 62) (wAt bAbc 62) = _
  rw [abcV62, abcW62]; kernel_rfl
theorem abcV64 : rounds8 v0 bAbc 64 = ⟨1349398616, 3550093669, 80891244, 3093179625, 1593118500, 4212265488, 2492278198, 2518632596⟩ := by
  show step8 (rounds8 v0 bAbc 63) (shaK 63) (wAt bAbc 63) = _
  rw [abcV63, abcW63]; kernel_rfl
theorem abcF (i : Nat) : blockF (fun i => shaFirst.getD i 0) bAbc i = uA (shaFirst.getD i 0) (getV ⟨1349398616, 3550093669, 80891244, 3093179625, 1593118500, 4212265488, 2492278198, 2518632596⟩ i) := by
  unfold blockF; rw [show rounds8 (ofF fun i => shaFirst.getD i 0) bAbc 64 = _ from abcV64]
theorem abcSum : hUp (blockF (fun i => shaFirst.getD i 0) bAbc) 8 = [186, 120, 22, 191, 143, 1, 207, 234, 65, 65, 64, 222, 93, 174, 34, 35, 176, 3, 97, 163, 150, 23, 122, 156, 180, 16, 255, 97, 242, 0, 21, 173] := by
  rw [show blockF (fun i => shaFirst.getD i 0) bAbc = _ from funext abcF]; decide +kernel
end Go.Proofs.Ytclmnekadlpfkaa
