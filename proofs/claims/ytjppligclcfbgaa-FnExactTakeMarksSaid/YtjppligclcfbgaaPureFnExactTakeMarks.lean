/- The plain statement on TakeMarks: what the program returns is what the reference returns. -/
import Derived.Test.YtjppligclcfbgaaF6
import Derived.Test.YtjppligclcfbgaaF7
import Derived.Test.YtjppligclcfbgaaMarks2
namespace Go.Proofs.Ytjppligclcfbgaa.Pure
open Go.RowKit Go.Proofs.Ytjppligclcfbgaa.F Go.Proofs.Ytjppligclcfbgaa.Lib Go.Proofs.YtjppligclcfbgaaW.PrintWords Go.Proofs.YtjppligclcfbgaaW.PrintLast
/-- What TakeMarks says. -/
def takeR (p : Int) (a b : List Int) : List Int × Bool :=
  if (goodMark p a && goodMark p b) = true then (if allIn (both (fun x y => wrap64 (x - y)) a b) 0 50 = true then (both (fun x y => wrap64 (x - y)) a b, true) else ([], false)) else ([], false)
theorem takeR_short (p : Int) (a b : List Int) (ha : Short a) : Short (takeR p a b).1 := by
  have ha' : a.length ≤ _ := ha
  unfold takeR
  split
  · split
    · show Short (both (fun x y => wrap64 (x - y)) a b)
      exact both_short _ a b ha
    · show 0 ≤ _; omega
  · show 0 ≤ _; omega
theorem getD_bounds {p : Int} {l : List Int} (h : goodMark p l = true) (i : Nat) : 0 ≤ l.getD i 0 ∧ l.getD i 0 ≤ 50 := by
  by_cases hi : i < l.length
  · rw [List.getD_eq_getElem?_getD, List.getElem?_eq_getElem hi]
    exact (goodMark_bounds h).2.2.2 _ (List.getElem_mem hi)
  · rw [List.getD_eq_getElem?_getD, List.getElem?_eq_none (by omega)]
    simp
/-- One marking can be taken from another just where it is covered by it. -/
theorem take_over {p : Int} {a b : List Int} (ha : goodMark p a = true) (hb : goodMark p b = true) : over a.length a b = allIn (both (fun x y => wrap64 (x - y)) a b) 0 50 := by
  unfold over allIn both
  rw [List.all_map]
  congr 1
  funext i
  have h1 := getD_bounds ha i
  have h2 := getD_bounds hb i
  have e : wrap64 (a.getD i 0 - b.getD i 0) = a.getD i 0 - b.getD i 0 := wrap_id _ (by omega) (by omega)
  show decide (¬ a.getD i 0 < b.getD i 0) = decide (0 ≤ wrap64 (a.getD i 0 - b.getD i 0) ∧ wrap64 (a.getD i 0 - b.getD i 0) ≤ 50)
  exact decide_eq_decide.2 ⟨fun h => ⟨by omega, by omega⟩, fun h => by omega⟩
theorem specTake_ev (p : Int) (a b : List Int) (ha : Short a) (hb : Short b) : Evt (fun k => spec_TakeMarks.f k p a b) (takeR p a b) := by
  have ha' : a.length ≤ 17592186044415 := ha
  unfold spec_TakeMarks.f takeR
  cases hg : goodMark p a && goodMark p b with
  | false =>
    refine Evt.bind ((l1Two_ev p a b ha hb).cast hg) (Evt.neg (by decide) (Evt.step ?_))
    simp only [spec_TakeMarks.j0]
    exact Evt.pos (by trivial) (Evt.ok _)
  | true =>
    have hl := goodMark_len hg
    rw [Bool.and_eq_true] at hg
    have ho := take_over hg.1 hg.2
    refine Evt.bind ((l1Two_ev p a b ha hb).cast (by rw [hg.1, hg.2]; rfl)) (Evt.pos rfl (Evt.bind (l1Covers_ev a b hb (by omega)) ?_))
    rw [if_pos rfl, ← hl, ho]
    cases h : allIn (both (fun x y => wrap64 (x - y)) a b) 0 50 with
    | false =>
      refine Evt.step ?_
      simp only [spec_TakeMarks.j0]
      exact Evt.pos rfl ((Evt.ok _).cast (by rw [if_neg (by decide)]))
    | true =>
      refine Evt.step ?_
      simp only [spec_TakeMarks.j0]
      refine Evt.neg (by decide) ?_
      rw [if_pos (by trivial)]
      refine loop_to (fun k i => spec_TakeMarks.l0 k a b ((List.range i).map fun i => wrap64 (a.getD i 0 - b.getD i 0)) (a.length : Int) (i : Int)) a.length ?_ _ ?_
      · intro i hi r h
        simp only [spec_TakeMarks.l0, rdD, wrapN i _ hi (by omega)]
        rw [← range_map_succ (fun i => wrap64 (a.getD i 0 - b.getD i 0))]
        exact Evt.pos (natLt _ _ hi) (Evt.pos (by omega) (Evt.pos (natLt _ _ hi) (Evt.pos (by omega) (Evt.pos (by rw [List.length_map, List.length_range]; omega) h))))
      · refine Evt.step ?_
        simp only [spec_TakeMarks.l0]
        exact Evt.neg (natNotLt _) (Evt.ok _)
theorem take_ev (p : Int) (a b : List Int) (ha : Short a) (hb : Short b) : Evt (fun k => impl_TakeMarks.f k p a b) (takeR p a b) := by
  have ha' : a.length ≤ 17592186044415 := ha
  unfold impl_TakeMarks.f takeR
  cases hg : goodMark p a && goodMark p b with
  | false => exact Evt.bind ((areMarks2_ev p a b ha hb).cast hg) (Evt.neg (by decide) (Evt.ok _))
  | true =>
    have hl := goodMark_len hg
    refine Evt.bind ((areMarks2_ev p a b ha hb).cast hg) (Evt.pos rfl ?_)
    rw [if_pos rfl]
    refine Evt.bind (a := both (fun x y => wrap64 (x - y)) a b) ?_ (Evt.bind (checkedMark_ev _ (both_short _ a b ha)) (Evt.ok _))
    unfold impl_combined_at_impl_TakeMarks_1.f
    refine Evt.pos (by omega) (Evt.pos (by simp; omega) ?_)
    rw [Int.toNat_natCast]
    exact combined_gen impl_TakeMarks_1.f _ (fun x y => rfl) (fun k s i => impl_combined_at_impl_TakeMarks_1.l0 k b s a (a.length : Int) i) a b ha (by omega) (fun k s i => rfl)

theorem FnExactTakeMarks : laws_FnExactTakeMarks.Pure := by
  intro a0 l1 l2 _ _ _ _ _ _ _
  refine Evt.get ?_
  unfold laws_FnExactTakeMarks.f
  by_cases hb1 : (l1.length : Int) > 1048576
  · exact Evt.pos hb1 (Evt.ok _)
  refine Evt.neg hb1 ?_
  by_cases hb2 : (l2.length : Int) > 1048576
  · exact Evt.pos hb2 (Evt.ok _)
  have h1 : Short l1 := by show l1.length ≤ _; omega
  have h2 : Short l2 := by show l2.length ≤ _; omega
  have hs := specTake_ev a0 l1 l2 h1 h2
  have hi := take_ev a0 l1 l2 h1 h2
  have hr := takeR_short a0 l1 l2 h1
  have hr' : (takeR a0 l1 l2).1.length ≤ 17592186044415 := hr
  generalize takeR a0 l1 l2 = r at hs hi hr hr'
  refine Evt.neg hb2 (Evt.bind (toIntS_ev l1 h1) (Evt.bind (toIntS_ev l2 h2) (Evt.bind hs (Evt.bind (toIntS_ev l1 h1) (Evt.bind (toIntS_ev l2 h2) (Evt.bind hi (Evt.bind (eqIntS_same r.1 hr) (Evt.pos rfl (Evt.step ?_)))))))))
  simp only [laws_FnExactTakeMarks.j0]
  refine Evt.neg (by simp) (Evt.bind (toIntS_ev l1 h1) (Evt.bind (eqIntS_same l1 h1) (Evt.pos rfl (Evt.bind (toIntS_ev l2 h2) (Evt.bind (eqIntS_same l2 h2) (Evt.pos rfl ?_))))))
  refine Evt.bind (markIntS_ev l1 1 (by omega)) (Evt.bind (markIntS_ev l2 (1 + l1.length) (by omega)) ?_)
  refine Evt.neg (by omega) (Evt.bind (eqIntS_same r.1 hr) (Evt.pos rfl (Evt.step ?_)))
  simp only [laws_FnExactTakeMarks.j1]
  refine Evt.neg (by simp) (Evt.bind (markIntS_ev r.1 1 (by omega)) (Evt.bind (heldIntS_ev 1 r.1.length (by omega)) ?_))
  refine Evt.neg (by omega) (Evt.pos rfl (Evt.bind (toIntS_ev l1 h1) (Evt.bind (toIntS_ev l2 h2) (Evt.bind hi (Evt.bind (eqIntS_same r.1 hr) (Evt.pos rfl (Evt.step ?_)))))))
  simp only [laws_FnExactTakeMarks.j2]
  exact Evt.neg (by simp) (Evt.bind (heldIntS_ev 1 r.1.length (by omega)) (Evt.neg (by omega) (Evt.pos rfl (Evt.ok _))))
end Go.Proofs.Ytjppligclcfbgaa.Pure
