import Derived.Test.YtiglhdibibbkjaaF4
import Derived.Test.YtiglhdibibbkjaaF5
import Derived.Test.YtiglhdibibbkjaaF15
import Derived.Test.YtiglhdibibbkjaaWay
import Derived.Test.YtiglhdibibbkjaaSpace
namespace Go.Proofs.Ytiglhdibibbkjaa.Lib
open Go.RowKit Go.Proofs.Ytiglhdibibbkjaa.F Go.Proofs.YtiglhdibibbkjaaW.PrintWords Go.Proofs.YtiglhdibibbkjaaW.PrintLast Go.Proofs.YtiglhdibibbkjaaW.PrintMore
theorem core_WayTo (p : Int) (ts : List Tr) (x1 : List Int) (x2 : Int) (x3 : List Int) (hs : SmallN ts) (h1 : Short x1) (h3 : Short x3) : ∃ x : List Int × Bool, Evt (fun k => spec_WayTo.f k p ts x1 x2 x3) x ∧ Evt (fun k => impl_WayTo.f k p ts x1 x2 x3) x ∧ Short x.1 := by
  obtain ⟨⟨M, A, c⟩, e1, e2, e3⟩ := space_ex p ts x1 x2 hs h1
  unfold spec_WayTo.f impl_WayTo.f
  have hz : Short ([] : List Int) := by show 0 ≤ _; omega
  have out : ∀ M' A', Evt (fun k => spec_WayTo.j0 k x3 true M' A') ([], false) ∧ Evt (fun k => impl_WayTo.j0 k x3 true M' A') ([], false) := by
    intro M' A'
    constructor
    · refine Evt.step ?_
      simp only [spec_WayTo.j0]
      exact Evt.pos trivial (Evt.ok _)
    · refine Evt.step ?_
      simp only [impl_WayTo.j0]
      exact Evt.pos trivial (Evt.ok _)
  cases c with
  | false => exact ⟨([], false), Evt.bind e1 (Evt.neg (by simp) (out _ _).1), Evt.bind e2 (Evt.neg (by simp) (out _ _).2), hz⟩
  | true =>
    have hw : Whole p ts x1 x2 M A := e3 rfl
    obtain ⟨r, f1, f2⟩ := l4Find_ex M x3 hw.shortM hw.short
    obtain ⟨r', f3, f4⟩ := find_ex M A (fun z => impl_Space_find.f z M A x3) x3 hw.shortM hw.short (fun z => by simp only [impl_Space_find.f])
    have e := isAt_unique f2 f4
    subst e
    by_cases hr : r < 0
    · refine ⟨([], false), Evt.bind e1 (Evt.pos rfl (Evt.bind f1 (by rw [decide_eq_true hr]; exact (out _ _).1))), Evt.bind e2 (Evt.pos rfl ?_), hz⟩
      cases hm : goodMark p x3 with
      | false => exact Evt.bind ((goodMark_ev p x3 h3).cast hm) (out _ _).2
      | true =>
        refine Evt.bind ((goodMark_ev p x3 h3).cast hm) (Evt.step ?_)
        simp only [impl_WayTo.j0]
        refine Evt.neg (by decide) (Evt.bind (a := (([] : List Int), false)) ?_ (Evt.neg (by simp) (Evt.ok _)))
        unfold impl_Space_wayTo.f
        exact Evt.bind f3 (Evt.pos hr (Evt.ok _))
    · have hlt := isAt_lt f2 hr
      have hm : goodMark p x3 = true := by
        obtain ⟨i, rfl⟩ : ∃ i : Nat, r = (i : Int) := ⟨r.toNat, by omega⟩
        obtain ⟨hi, g1, _⟩ := f2.2.1 i rfl
        have := hw.space.good _ (List.getElem_mem hi)
        rw [of_decide_eq_true g1] at this
        exact this
      have hmost := hw.space.most
      have hbud := hw.budget
      obtain ⟨W, w1, w2, w3⟩ := way_ex (n := M.length) (M := M) (A := A) (t := r) hw.space.tree (fun a ha => ⟨(hw.space.arcs a ha).1, (hw.space.arcs a ha).2.2⟩) rfl (by omega) hw.few ⟨by omega, hlt⟩
      have hway : Evt (fun k => impl_Space_wayTo.f k M A x3) (W, true) := by
        unfold impl_Space_wayTo.f
        exact Evt.bind f3 (Evt.neg hr w2)
      by_cases hl : (W.length : Int) > 60
      · refine ⟨([], false), Evt.bind e1 (Evt.pos rfl (Evt.bind f1 ?_)), Evt.bind e2 (Evt.pos rfl (Evt.bind ((goodMark_ev p x3 h3).cast hm) (Evt.step ?_))), hz⟩
        · rw [decide_eq_false hr]
          refine Evt.step ?_
          simp only [spec_WayTo.j0]
          exact Evt.neg (by decide) (Evt.bind f1 (Evt.bind w1 (Evt.pos hl (Evt.ok _))))
        · simp only [impl_WayTo.j0]
          exact Evt.neg (by decide) (Evt.bind hway (Evt.pos rfl (Evt.pos hl (Evt.ok _))))
      · refine ⟨(W, true), Evt.bind e1 (Evt.pos rfl (Evt.bind f1 ?_)), Evt.bind e2 (Evt.pos rfl (Evt.bind ((goodMark_ev p x3 h3).cast hm) (Evt.step ?_))), by show W.length ≤ _; omega⟩
        · rw [decide_eq_false hr]
          refine Evt.step ?_
          simp only [spec_WayTo.j0]
          exact Evt.neg (by decide) (Evt.bind f1 (Evt.bind w1 (Evt.neg hl (Evt.ok _))))
        · simp only [impl_WayTo.j0]
          exact Evt.neg (by decide) (Evt.bind hway (Evt.pos rfl (Evt.neg hl (Evt.ok _))))
end Go.Proofs.Ytiglhdibibbkjaa.Lib
