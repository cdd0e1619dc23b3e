/- The plain statement on CompareMarks: what the program returns is what the reference returns. -/
import Derived.Test.YtjppligclcfbgabF1
import Derived.Test.YtjppligclcfbgabF2
import Derived.Test.YtjppligclcfbgabF3
import Derived.Test.YtjppligclcfbgabCmp
import Derived.Test.YtjppligclcfbgabTwo
namespace Go.Proofs.Ytjppligclcfbgab.Pure
open Go.RowKit Go.Proofs.Ytjppligclcfbgab.F Go.Proofs.Ytjppligclcfbgab.Lib Go.Proofs.YtjppligclcfbgabW.PrintWords Go.Proofs.YtjppligclcfbgabW.PrintLast
theorem FnExactCompareMarks : laws_FnExactCompareMarks.Pure := by
  intro a0 l1 l2 _ _ _ _ _ _ _
  refine Evt.get ?_
  unfold laws_FnExactCompareMarks.f
  by_cases hb1 : (l1.length : Int) > 1048576
  · exact Evt.pos hb1 (Evt.ok _)
  refine Evt.neg hb1 ?_
  by_cases hb2 : (l2.length : Int) > 1048576
  · exact Evt.pos hb2 (Evt.ok _)
  have h1 : Short l1 := by show l1.length ≤ _; omega
  have h2 : Short l2 := by show l2.length ≤ _; omega
  have hr : ∃ r, Evt (fun k => spec_CompareMarks.f k a0 l1 l2) r ∧ Evt (fun k => impl_CompareMarks.f k a0 l1 l2) r := by
    unfold spec_CompareMarks.f impl_CompareMarks.f
    cases hg : goodMark a0 l1 && goodMark a0 l2 with
    | false => exact ⟨(0, false), Evt.bind ((l1Two_ev a0 l1 l2 h1 h2).cast hg) (Evt.neg (by decide) (Evt.ok _)), Evt.bind ((areMarks2_ev a0 l1 l2 h1 h2).cast hg) (Evt.neg (by decide) (Evt.ok _))⟩
    | true =>
      have hl := goodMark_len hg
      exact ⟨(lexL l1 l2, true), Evt.bind ((l1Two_ev a0 l1 l2 h1 h2).cast hg) (Evt.pos rfl (Evt.bind (l1Compare_ev l1 l2 h1 hl) (Evt.ok _))), Evt.bind ((areMarks2_ev a0 l1 l2 h1 h2).cast hg) (Evt.pos rfl (Evt.bind (slicesCompare_ev l1 l2 h1) (Evt.ok _)))⟩
  obtain ⟨⟨r1, r2⟩, hs, hi⟩ := hr
  refine Evt.neg hb2 (Evt.bind (toIntS_ev l1 h1) (Evt.bind (toIntS_ev l2 h2) (Evt.bind hs (Evt.bind (toIntS_ev l1 h1) (Evt.bind (toIntS_ev l2 h2) (Evt.bind hi ?_))))))
  refine Evt.pos rfl (Evt.step ?_)
  simp only [laws_FnExactCompareMarks.j0]
  exact Evt.neg (by simp) (Evt.bind (toIntS_ev l1 h1) (Evt.bind (eqIntS_same l1 h1) (Evt.pos rfl (Evt.bind (toIntS_ev l2 h2) (Evt.bind (eqIntS_same l2 h2) (Evt.pos rfl (Evt.ok _)))))))
end Go.Proofs.Ytjppligclcfbgab.Pure
