import Derived.Test.YtbkjgnfnjgebiaaDoorF1
import Derived.Test.YtbkjgnfnjgebiaaDoorMarksS
namespace Go.Proofs.YtbkjgnfnjgebiaaDoor.Lib
open Go.RowKit Go.Proofs.YtbkjgnfnjgebiaaDoor.F Go.Proofs.YtbkjgnfnjgebiaaDoorW.PrintWords Go.Proofs.YtbkjgnfnjgebiaaDoorW.PrintLast Go.Proofs.YtbkjgnfnjgebiaaDoorW.PrintMore
theorem goodMark_ev (p : Int) (l : List Int) (hl : Short l) : Evt (fun k => impl_GoodMark.f k p l) (goodMark p l) := by
  unfold impl_GoodMark.f goodMark
  simp only [within_eq, Option.bind_some]
  cases h : within p 1 16 with
  | false => exact Evt.neg (by decide) ((Evt.ok _).cast (by simp))
  | true =>
    refine Evt.pos rfl ?_
    by_cases h2 : (l.length : Int) = p
    · refine Evt.pos h2 (Evt.bind (allWithin_ev l 0 50 hl) ((Evt.ok _).cast ?_))
      simp [h2]
    · refine Evt.neg h2 ((Evt.ok _).cast ?_)
      simp [h2]
end Go.Proofs.YtbkjgnfnjgebiaaDoor.Lib
