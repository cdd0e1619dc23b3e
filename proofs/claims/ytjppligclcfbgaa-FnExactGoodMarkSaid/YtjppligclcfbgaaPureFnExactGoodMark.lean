/- The plain statement on GoodMark: what the program returns is what the reference returns. -/
import Derived.Test.YtjppligclcfbgaaF1
import Derived.Test.YtjppligclcfbgaaMarks
namespace Go.Proofs.Ytjppligclcfbgaa.Pure
open Go.RowKit Go.Proofs.Ytjppligclcfbgaa.F Go.Proofs.Ytjppligclcfbgaa.Lib Go.Proofs.YtjppligclcfbgaaW.PrintWords Go.Proofs.YtjppligclcfbgaaW.PrintLast
theorem FnExactGoodMark : laws_FnExactGoodMark.Pure := by
  intro a0 l1 _ _ _ _
  refine Evt.get ?_
  unfold laws_FnExactGoodMark.f
  by_cases hbig : (l1.length : Int) > 1048576
  · exact Evt.pos hbig (Evt.ok _)
  have hl : Short l1 := by show l1.length ≤ _; omega
  refine Evt.neg hbig (Evt.bind (toIntS_ev l1 hl) (Evt.bind (specGoodMark_ev a0 l1 hl) (Evt.bind (toIntS_ev l1 hl) (Evt.bind (goodMark_ev a0 l1 hl) ?_))))
  exact Evt.neg (by simp) (Evt.bind (toIntS_ev l1 hl) (Evt.bind (eqIntS_same l1 hl) (Evt.pos rfl (Evt.ok _))))
end Go.Proofs.Ytjppligclcfbgaa.Pure
