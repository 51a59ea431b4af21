/- Sorting marks and reasons: the library's contracts at this program. -/
import Derived.Test.YtlikmdmdmljiaaaDoorRetRow
import Derived.Test.YtlikmdmdmljiaaaDoorShelfSf
namespace Go.Proofs.YtlikmdmdmljiaaaDoor
open Go.RowKit Go.Shelf Go.Lib Go.Sort
set_option linter.unusedVariables false
def srtM (l : List Mk) : List Mk := l.mergeSort fun x y => !(ltM bl y x)
theorem ltOf_ord : ltOf ordM = ltM bl := by
  funext x y
  rw [← ordM_lt]
  rfl
theorem swoM : SWO (ltM bl) where
  irrefl x := ltM_irrefl nord_bl x
  trans x y z h1 h2 := ltM_trans nord_bl x y z h1 h2
  ntrans x y z h1 h2 := ltM_ntrans nord_bl x y z h1 h2
theorem encM_len (x : Mk) : (encM x).length = 2 := rfl
theorem encM_one (x : Mk) : ∀ v ∈ encM x, v.oneCell' = true := by
  intro v hv
  simp [encM] at hv
  rcases hv with rfl | rfl <;> rfl
theorem ordLays (blk off size : Nat) (w : World) : CmpLays Tryd.prog 34 #[] encM 2 ordM blk off size w := fun _ _ _ _ x y => ord_any x y _
theorem sortMk_any (g cap : Nat) (l : List Mk) (w : World) (hH : HoldsK encM 2 w g 0 l.toArray) (hg : g < w.heap.size) (hl : l.length ≤ 1000000) :
    Calls Tryd.prog 33 #[.slice (some ⟨g, 0, none⟩) l.length cap, .func (.func 34) #[] #[]] w fun e w' => e = .returned (.tuple #[]) ∧ ∃ n os, w' = sortWorldK encM 2 w g 0 n (srtM l).toArray os := by
  have eg : ∀ args w, (callFunc 34 args).run Tryd.prog w = .ok (.enter 34 args) w := enters_of Tryd.func34 (by kernel_rfl) rfl
  have h := AnyQ.slices_SortFunc_total Tryd.sortMk 2 Tryd.isAgg29 Tryd.sizeOf29 encM encM_len encM_one ordM (by rw [ltOf_ord]; exact swoM) 34 #[] g 0 cap l.toArray w eg (ordLays g 0 _ w) hH hg (by simp; omega) (fun x y h1 h2 => by rw [ltOf_ord] at h1 h2; exact ltM_tri nord_bl x y h1 h2)
  rw [List.size_toArray, ltOf_ord] at h
  exact h
theorem sortMk_none (p : Option Addr) (cap : Nat) (w : World) : Calls Tryd.prog 33 #[.slice p 0 cap, .func (.func 34) #[] #[]] w fun e w' => e = .returned (.tuple #[]) ∧ w' = w :=
  AnyF.slices_SortFunc_none Tryd.sortMk p cap _ w
/-- reasons by name -/
def ordR (x y : Mk) : Int := cmpS x.1 y.1
theorem cmpS_lt (a b : ByteArray) : decide (cmpS a b < 0) = bl a b := by
  unfold cmpS
  cases h1 : bl a b with
  | true => rfl
  | false => cases h2 : bl b a <;> rfl
theorem ltOf_ordR : ltOf ordR = fun x y => bl x.1 y.1 := by
  funext x y
  rw [← cmpS_lt]
  rfl
theorem swoR : SWO (fun x y : Mk => bl x.1 y.1) where
  irrefl x := bl_irrefl x.1
  trans x y z h1 h2 := bl_trans h1 h2
  ntrans x y z h1 h2 := nlt_ntrans nord_bl x.1 y.1 z.1 h1 h2
set_option maxRecDepth 20000 in
set_option maxHeartbeats 1000000 in
theorem why1_any (x y : Mk) (W : World) : Calls Tryd.prog 24 #[.agg #[.string x.1, .int .i64 x.2], .agg #[.string y.1, .int .i64 y.2]] W fun e w' => e = .returned (.int .i64 (ordR x y)) ∧ ∃ q os', w' = grow (W.drewN q) os' := by
  obtain ⟨xn, xa⟩ := x
  obtain ⟨yn, ya⟩ := y
  unfold ordR
  dsimp only
  have HS := fun w => Lib.hid (cmpS_any xn yn w)
  generalize cmpS xn yn = cs at *
  go_enter Tryd.func24, Tryd.ntmps24
  go_wp2_with fail
  refine (HS _).out.mono ?_
  rintro e w' ⟨rfl, rfl⟩
  go_wp2
  go_ret
  exact ⟨rfl, 0, _, by rw [alloc_eq_grow, alloc_eq_grow, grow_grow]; rfl⟩
theorem whyLays (blk off size : Nat) (w : World) : CmpLays Tryd.prog 24 #[] encM 2 ordR blk off size w := fun _ _ _ _ x y => why1_any x y _
theorem perm_of_permIn {d : Array Mk} {l : List Mk} (h : PermIn 0 l.toArray.size l.toArray d) : d.toList.Perm l := by
  obtain ⟨h1, _, h3⟩ := h
  have e1 : d.extract 0 l.toArray.size = d := by rw [← h1]; simp
  have e2 : l.toArray.extract 0 l.toArray.size = l.toArray := by simp
  rw [e1, e2] at h3
  exact h3
theorem pair_of_sorted {d : Array Mk} (h : SortedIn (fun x y : Mk => bl x.1 y.1) 0 d.size d) : d.toList.Pairwise (fun x y => (!(bl y.1 x.1)) = true) := by
  rw [List.pairwise_iff_getElem]
  intro i j hi hj hij
  have hi' : i < d.size := by simpa using hi
  have hj' : j < d.size := by simpa using hj
  have := h i j (Nat.zero_le _) hij hj'
  rw [getElem!_pos d i hi', getElem!_pos d j hj'] at this
  simpa using this
theorem sortRs_any (g cap : Nat) (l : List Mk) (w : World) (hH : HoldsK encM 2 w g 0 l.toArray) (hg : g < w.heap.size) (hl : l.length ≤ 1000000) :
    Calls Tryd.prog 23 #[.slice (some ⟨g, 0, none⟩) l.length cap, .func (.func 24) #[] #[]] w fun e w' => e = .returned (.tuple #[]) ∧ ∃ (d : List Mk) (n : Nat) (os : Array Obj), d.Perm l ∧ d.Pairwise (fun x y => (!(bl y.1 x.1)) = true) ∧ w' = sortWorldK encM 2 w g 0 n d.toArray os := by
  have eg : ∀ args w, (callFunc 24 args).run Tryd.prog w = .ok (.enter 24 args) w := enters_of Tryd.func24 (by kernel_rfl) rfl
  have h := AnyQ.slices_SortFunc Tryd.sortRs 2 Tryd.isAgg37 Tryd.sizeOf37 encM encM_len encM_one ordR (by rw [ltOf_ordR]; exact swoR) 24 #[] g 0 cap l.toArray w eg (whyLays g 0 _ w) hH hg (by simp; omega)
  rw [List.size_toArray, ltOf_ordR] at h
  refine h.mono ?_
  rintro e w' ⟨rfl, d', n, os, hp, hs, rfl⟩
  refine ⟨rfl, d'.toList, n, os, perm_of_permIn (by simpa using hp), pair_of_sorted ?_, by simp⟩
  have hz : d'.size = l.length := by have := hp.1; simpa using this
  rw [hz]
  exact hs
theorem sortRs_none (p : Option Addr) (cap : Nat) (w : World) : Calls Tryd.prog 23 #[.slice p 0 cap, .func (.func 24) #[] #[]] w fun e w' => e = .returned (.tuple #[]) ∧ w' = w :=
  AnyF.slices_SortFunc_none Tryd.sortRs p cap _ w
end Go.Proofs.YtlikmdmdmljiaaaDoor
