/- Chapter 17's examples; frames of a pack, told again. -/
import Derived.Test.YtkbpkodakfknoaaPackWrap
import Derived.Test.YtkbpkodakfknoaaPackScan2
namespace Go.Proofs.Ytkbpkodakfknoaa
open Go.RowKit
set_option linter.unusedVariables false
set_option linter.unusedSimpArgs false
theorem fFrames_wrap (n k : Nat) (s : List UInt8) (o : Ob) (rest : List UInt8) (h : o.1.size + o.2.size ≤ 20000) (hs : s.drop k = (oBytes o).data.toList ++ rest) :
    fFrames (n + 1) k s = (k, (oBytes o).size, oText o) :: fFrames n (k + (oBytes o).size) s := by
  have hl : (oText o).data.toList.length ≤ 65536 := by rw [Array.length_toList]; show (oText o).size ≤ _; rw [oText_size]; omega
  have ho := fOpen_wrap (oText o).data.toList rest hl
  have hb : (oBytes o).data.toList = fWrap (oText o).data.toList := rfl
  rw [← hb, ← hs] at ho
  have h5 := (oBytes_size o h).2
  have hlen : (oBytes o).data.toList.length = (oBytes o).size := by rw [Array.length_toList]; rfl
  have hk : ¬ s.length ≤ k := by
    intro hh
    have h1 : (s.drop k).length = 0 := by rw [List.length_drop]; omega
    rw [hs, List.length_append, hlen] at h1
    omega
  rw [fFrames, if_neg hk, ho, if_neg (by simp)]
  rw [hlen]
theorem fFrames_done (n k : Nat) (s : List UInt8) (h : s.length ≤ k) : fFrames n k s = [] := by
  cases n with
  | zero => rfl
  | succ n => rw [fFrames, if_pos h]
theorem cells2P {w : World} {b : Nat} {x y : Value} {t : TypeId} (h : w.heap[b]? = some (.cells #[x, y] t)) : w.cell? ⟨b, 0, none⟩ = some x ∧ w.cell? ⟨b, 1, none⟩ = some y := by
  constructor <;> (unfold World.cell?; simp [h])
def kX : ByteArray := shaSum [120]
def oX : Ob := (kX, ⟨#[120]⟩)
theorem kX_size : kX.size = 32 := shaSum_size _
theorem append_drop (a b : ByteArray) : (a ++ b).extract a.size (a ++ b).size = b := by
  apply ByteArray.ext
  apply Array.toList_inj.1
  rw [Lib.extract_data, ByteArray.data_append, Array.toList_append, ByteArray.size_append]
  have h1 : a.data.toList.length = a.size := by rw [Array.length_toList]; rfl
  have h2 : b.data.toList.length = b.size := by rw [Array.length_toList]; rfl
  rw [List.take_of_length_le (by simp [h1, h2]), ← h1, List.drop_left]
theorem append_take (a b : ByteArray) : (a ++ b).extract 0 a.size = a := by
  apply ByteArray.ext
  apply Array.toList_inj.1
  rw [Lib.extract_data, ByteArray.data_append, Array.toList_append]
  have h1 : a.data.toList.length = a.size := by rw [Array.length_toList]; rfl
  rw [List.drop_zero, Nat.sub_zero, ← h1, List.take_left]
theorem goodT_sum (r : ByteArray) : goodT (shaSum r.data.toList ++ r) = true := by
  have h32 : (shaSum r.data.toList).size = 32 := shaSum_size _
  unfold goodT
  have h1 := append_drop (shaSum r.data.toList) r
  have h2 := append_take (shaSum r.data.toList) r
  rw [h32] at h1 h2
  rw [h1, h2]
  simp [ByteArray.size_append, h32]
theorem oX_len : (oBytes oX).size = 38 := by
  have hl : (oText oX).data.toList.length = 33 := by rw [Array.length_toList]; show (oText oX).size = 33; rw [oText_size]; show kX.size + 1 = 33; rw [kX_size]
  have h1 := fWrap_len (oText oX).data.toList (by omega)
  rw [hl] at h1
  have h3 : (oBytes oX).size = (fWrap (oText oX).data.toList).length := List.size_toArray
  rw [h3, h1]
  rfl
theorem scan_nil : scanP [] = ([], 0) := rfl
theorem scan_oX : (scanP (oBytes oX).data.toList).1.length = 1 ∧ (scanP (oBytes oX).data.toList).2 = 38 := by
  have hlen : (oBytes oX).data.toList.length = 38 := by rw [Array.length_toList]; exact oX_len
  have hF : allF (oBytes oX).data.toList = [(0, 38, oText oX)] := by
    unfold allF
    rw [hlen, fFrames_wrap 37 0 _ oX [] (by show kX.size + 1 ≤ 20000; rw [kX_size]; decide) (by simp), oX_len, fFrames_done _ _ _ (by rw [hlen]; omega)]
  have hg : goodT (oText oX) = true := goodT_sum ⟨#[120]⟩
  unfold scanP goods
  rw [hF, List.takeWhile_cons, if_pos hg]
  exact ⟨rfl, rfl⟩
set_option maxRecDepth 20000 in
set_option maxHeartbeats 2000000 in
theorem awakeP_any (w : World) : Calls Try.prog 8 #[] w fun e w' => e = .returned (.bool true) ∧ Below w.heap.size w w' := by
  have HW0 := Lib.hid (fun w => pwrap_any (.slice none 0 0) [] w ⟨none, 0, rfl, Nat.le_refl _, by unfold maxLen; omega, fun h => absurd h (by decide)⟩ (fun o ho => by cases ho) (by decide))
  have HS0 := Lib.hid (fun w => scan_any ⟨#[]⟩ (by decide) w)
  rw [show scanP (⟨#[]⟩ : ByteArray).data.toList = ([], 0) from rfl] at HS0
  dsimp only at HS0
  have HSum := Lib.hid (fun w => refSum_any ⟨#[120]⟩ w (by decide))
  have HX := Lib.hid (fun w v (h : ObjsB w v [oX]) => pwrap_any v [oX] w h (fun o ho => by rw [List.mem_singleton.1 ho]; show kX.size + 1 ≤ 20000; rw [kX_size]; decide) (by decide))
  have HSX := Lib.hid (fun w => scan_any (oBytes oX) (by rw [oX_len]; decide) w)
  obtain ⟨hx1, hx2⟩ := scan_oX
  have HX1 := Lib.hid hx1
  have HX2 := Lib.hid hx2
  clear hx1 hx2
  go_enter Try.func8, Try.ntmps8
  go_wp2_with fail
  refine (HW0.out _).mono ?_
  rintro e w1 ⟨rfl, b1⟩
  have HB1 := Lib.hid b1
  clear b1
  rw [show (⟨(pWrap []).toArray⟩ : ByteArray) = ⟨#[]⟩ from rfl]
  go_wp2_with fail
  refine (HS0.out _).mono ?_
  rintro e w2 ⟨v2, rfl, o2, b2⟩
  have HB2 := Lib.hid (HB1.out.trans (b2.mono HB1.out.size))
  obtain ⟨A2, c2, hv2, _⟩ := SlotsB.of_owns (l := []) o2
  subst hv2
  clear o2 b2 HB1
  go_wp2_with fail
  refine (HSum.out _).mono ?_
  rintro e w3 ⟨rfl, b3⟩
  have HB3 := Lib.hid (HB2.out.trans (b3.mono HB2.out.size))
  clear b3 HB2
  rw [show shaSum (⟨#[120]⟩ : ByteArray).data.toList = kX from rfl]
  go_wp2_with fail
  have hq := heap_alloc_new w3 (.cells #[.string kX, .string ⟨#[120]⟩] 45)
  have hba := (Below.refl w3.heap.size w3).alloc (Nat.le_refl _) (.cells #[.string kX, .string ⟨#[120]⟩] 45)
  refine (HX.out _ _ ⟨some ⟨w3.heap.size, 0, none⟩, 1, rfl, Nat.le_refl _, by unfold maxLen; omega, fun _ => ⟨_, 0, rfl, by simp, fun i hi => ?_⟩⟩).mono ?_
  · have hi0 : i = 0 := by simpa using hi
    subst hi0
    exact cells2P hq
  rintro e w4 ⟨rfl, b4⟩
  have HB4 := Lib.hid (HB3.out.trans ((hba.trans (b4.mono (by simp))).mono HB3.out.size))
  clear hq hba b4 HB3
  rw [show (⟨(pWrap [oX]).toArray⟩ : ByteArray) = oBytes oX from by apply ByteArray.ext; simp [pWrap]]
  go_wp2_with fail
  refine (HSX.out _).mono ?_
  rintro e w5 ⟨v5, rfl, o5, b5⟩
  have HB5 := Lib.hid (HB4.out.trans (b5.mono HB4.out.size))
  obtain ⟨A5, c5, hv5, _⟩ := SlotsB.of_owns o5
  rw [HX1.out] at hv5
  subst hv5
  rw [HX2.out]
  clear o5 b5 HB4
  go_wp2_with fail
  go_ret
  exact ⟨rfl, HB5.out⟩
end Go.Proofs.Ytkbpkodakfknoaa
