import Derived.Test.YtbkjgnfnjgebiaaF5
import Derived.Test.YtbkjgnfnjgebiaaMarksS
namespace Go.Proofs.Ytbkjgnfnjgebiaa.Lib
open Go.RowKit Go.Proofs.Ytbkjgnfnjgebiaa.F Go.Proofs.YtbkjgnfnjgebiaaW.PrintWords Go.Proofs.YtbkjgnfnjgebiaaW.PrintLast Go.Proofs.YtbkjgnfnjgebiaaW.PrintMore
theorem goodMark_ev (p:Int) (l:List Int) (hl:Short l):Evt (fun k=>impl_GoodMark.f k p l) (goodMark p l):=by
  unfold impl_GoodMark.f goodMark
  simp only [within_eq,Option.bind_some]
  cases h:within p 1 16 with
  | false=>exact Evt.neg (by decide) ((Evt.ok _).cast (by simp))
  | true =>
    refine Evt.pos rfl ?_
    by_cases h2:(l.length:Int)=p
    · refine Evt.pos h2 (Evt.bind (allWithin_ev l 0 50 hl) ((Evt.ok _).cast ?_))
      simp [h2]
    · refine Evt.neg h2 ((Evt.ok _).cast ?_)
      simp [h2]
end Go.Proofs.Ytbkjgnfnjgebiaa.Lib
