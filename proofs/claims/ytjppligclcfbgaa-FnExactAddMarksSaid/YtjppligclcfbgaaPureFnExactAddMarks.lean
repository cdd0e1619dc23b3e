/- The plain statement on AddMarks: what the program returns is what the reference returns. -/
import Derived.Test.YtjppligclcfbgaaF4
import Derived.Test.YtjppligclcfbgaaF5
import Derived.Test.YtjppligclcfbgaaMarks2
namespace Go.Proofs.Ytjppligclcfbgaa.Pure
open Go.RowKit Go.Proofs.Ytjppligclcfbgaa.F Go.Proofs.Ytjppligclcfbgaa.Lib Go.Proofs.YtjppligclcfbgaaW.PrintWords Go.Proofs.YtjppligclcfbgaaW.PrintLast
/-- What AddMarks says. -/
def addR (p : Int) (a b : List Int) : List Int × Bool :=
  if (goodMark p a && goodMark p b) = true then (if allIn (both (fun x y => wrap64 (x + y)) a b) 0 50 = true then (both (fun x y => wrap64 (x + y)) a b, true) else ([], false)) else ([], false)
theorem addR_short (p : Int) (a b : List Int) (ha : Short a) : Short (addR p a b).1 := by
  have ha' : a.length ≤ _ := ha
  unfold addR
  split
  · split
    · show Short (both (fun x y => wrap64 (x + y)) a b)
      exact both_short _ a b ha
    · show 0 ≤ _; omega
  · show 0 ≤ _; omega
theorem specAdd_ev (p : Int) (a b : List Int) (ha : Short a) (hb : Short b) : Evt (fun k => spec_AddMarks.f k p a b) (addR p a b) := by
  have ha' : a.length ≤ 17592186044415 := ha
  unfold spec_AddMarks.f addR
  cases hg : goodMark p a && goodMark p b with
  | false => exact Evt.bind ((l1Two_ev p a b ha hb).cast hg) (Evt.neg (by decide) (Evt.ok _))
  | true =>
    have hl := goodMark_len hg
    have hp : within p 1 16 = true := by
      rw [Bool.and_eq_true] at hg
      simp only [goodMark, Bool.and_eq_true] at hg
      exact hg.1.1.1
    have hpl : (a.length : Int) = p := by
      rw [Bool.and_eq_true] at hg
      have := goodMark_bounds hg.1
      omega
    refine Evt.bind ((l1Two_ev p a b ha hb).cast hg) (Evt.pos rfl ?_)
    rw [if_pos rfl]
    refine loop_to (fun k i => spec_AddMarks.l0 k p a b ((List.range i).map fun i => wrap64 (a.getD i 0 + b.getD i 0)) (a.length : Int) (i : Int)) a.length ?_ _ ?_
    · intro i hi r h
      simp only [spec_AddMarks.l0, rdD, wrapN i _ hi (by omega)]
      rw [← range_map_succ (fun i => wrap64 (a.getD i 0 + b.getD i 0))]
      exact Evt.pos (natLt _ _ hi) (Evt.pos (by omega) (Evt.pos (natLt _ _ hi) (Evt.pos (by omega) (Evt.pos (by rw [List.length_map, List.length_range]; omega) h))))
    · refine Evt.step ?_
      simp only [spec_AddMarks.l0]
      refine Evt.neg (natNotLt _) ?_
      have e : goodMark p (both (fun x y => wrap64 (x + y)) a b) = allIn (both (fun x y => wrap64 (x + y)) a b) 0 50 := by
        unfold goodMark
        rw [hp, both_length, hpl]; simp
      refine Evt.bind (a := allIn (both (fun x y => wrap64 (x + y)) a b) 0 50) ((specGoodMark_ev p (both (fun x y => wrap64 (x + y)) a b) (both_short _ a b ha)).cast e) ?_
      cases h : allIn (both (fun x y => wrap64 (x + y)) a b) 0 50 with
      | true => exact Evt.pos rfl (Evt.ok _)
      | false => exact Evt.neg (by decide) (Evt.ok _)
theorem add_ev (p : Int) (a b : List Int) (ha : Short a) (hb : Short b) : Evt (fun k => impl_AddMarks.f k p a b) (addR p a b) := by
  have ha' : a.length ≤ 17592186044415 := ha
  unfold impl_AddMarks.f addR
  cases hg : goodMark p a && goodMark p b with
  | false => exact Evt.bind ((areMarks2_ev p a b ha hb).cast hg) (Evt.neg (by decide) (Evt.ok _))
  | true =>
    have hl := goodMark_len hg
    refine Evt.bind ((areMarks2_ev p a b ha hb).cast hg) (Evt.pos rfl ?_)
    rw [if_pos rfl]
    refine Evt.bind (a := both (fun x y => wrap64 (x + y)) a b) ?_ (Evt.bind (checkedMark_ev _ (both_short _ a b ha)) (Evt.ok _))
    unfold impl_combined_at_impl_AddMarks_1.f
    refine Evt.pos (by omega) (Evt.pos (by simp; omega) ?_)
    rw [Int.toNat_natCast]
    exact combined_gen impl_AddMarks_1.f _ (fun x y => rfl) (fun k s i => impl_combined_at_impl_AddMarks_1.l0 k b s a (a.length : Int) i) a b ha (by omega) (fun k s i => rfl)

theorem FnExactAddMarks : laws_FnExactAddMarks.Pure := by
  intro a0 l1 l2 _ _ _ _ _ _ _
  refine Evt.get ?_
  unfold laws_FnExactAddMarks.f
  by_cases hb1 : (l1.length : Int) > 1048576
  · exact Evt.pos hb1 (Evt.ok _)
  refine Evt.neg hb1 ?_
  by_cases hb2 : (l2.length : Int) > 1048576
  · exact Evt.pos hb2 (Evt.ok _)
  have h1 : Short l1 := by show l1.length ≤ _; omega
  have h2 : Short l2 := by show l2.length ≤ _; omega
  have hs := specAdd_ev a0 l1 l2 h1 h2
  have hi := add_ev a0 l1 l2 h1 h2
  have hr := addR_short a0 l1 l2 h1
  have hr' : (addR a0 l1 l2).1.length ≤ 17592186044415 := hr
  generalize addR a0 l1 l2 = r at hs hi hr hr'
  refine Evt.neg hb2 (Evt.bind (toIntS_ev l1 h1) (Evt.bind (toIntS_ev l2 h2) (Evt.bind hs (Evt.bind (toIntS_ev l1 h1) (Evt.bind (toIntS_ev l2 h2) (Evt.bind hi (Evt.bind (eqIntS_same r.1 hr) (Evt.pos rfl (Evt.step ?_)))))))))
  simp only [laws_FnExactAddMarks.j0]
  refine Evt.neg (by simp) (Evt.bind (toIntS_ev l1 h1) (Evt.bind (eqIntS_same l1 h1) (Evt.pos rfl (Evt.bind (toIntS_ev l2 h2) (Evt.bind (eqIntS_same l2 h2) (Evt.pos rfl ?_))))))
  refine Evt.bind (markIntS_ev l1 1 (by omega)) (Evt.bind (markIntS_ev l2 (1 + l1.length) (by omega)) ?_)
  refine Evt.neg (by omega) (Evt.bind (eqIntS_same r.1 hr) (Evt.pos rfl (Evt.step ?_)))
  simp only [laws_FnExactAddMarks.j1]
  refine Evt.neg (by simp) (Evt.bind (markIntS_ev r.1 1 (by omega)) (Evt.bind (heldIntS_ev 1 r.1.length (by omega)) ?_))
  refine Evt.neg (by omega) (Evt.pos rfl (Evt.bind (toIntS_ev l1 h1) (Evt.bind (toIntS_ev l2 h2) (Evt.bind hi (Evt.bind (eqIntS_same r.1 hr) (Evt.pos rfl (Evt.step ?_)))))))
  simp only [laws_FnExactAddMarks.j2]
  exact Evt.neg (by simp) (Evt.bind (heldIntS_ev 1 r.1.length (by omega)) (Evt.neg (by omega) (Evt.pos rfl (Evt.ok _))))
end Go.Proofs.Ytjppligclcfbgaa.Pure
