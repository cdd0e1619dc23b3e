import Derived.Test.YtiglhdibibbkjaaF15
import Derived.Test.YtiglhdibibbkjaaInNet
import Derived.Test.YtiglhdibibbkjaaMarks
namespace Go.Proofs.Ytiglhdibibbkjaa.Lib
open Go.RowKit Go.Proofs.Ytiglhdibibbkjaa.F Go.Proofs.YtiglhdibibbkjaaW.PrintWords Go.Proofs.YtiglhdibibbkjaaW.PrintLast Go.Proofs.YtiglhdibibbkjaaW.PrintMore
theorem l2Marked_ev (p : Int) (ts : List Tr) (m : List Int) (h : SmallN ts) (hm : Short m) : Evt (fun k => spec_l2Marked.f k p ts m) (marked p ts m) := by
  unfold spec_l2Marked.f marked
  cases hg : goodNet p ts with
  | false => exact Evt.bind ((specGoodNet_ev p ts h).cast hg) (Evt.neg (by decide) (Evt.ok _))
  | true => exact Evt.bind ((specGoodNet_ev p ts h).cast hg) (Evt.pos rfl (Evt.bind (specGoodMark_ev p m hm) ((Evt.ok _).cast (by simp))))
theorem isMarked_ev (p : Int) (ts : List Tr) (m : List Int) (h : SmallN ts) (hm : Short m) : Evt (fun k => impl_isMarked.f k p ts m) (marked p ts m) := by
  unfold impl_isMarked.f marked
  cases hg : goodNet p ts with
  | false => exact Evt.bind ((goodNet_ev p ts h).cast hg) (Evt.neg (by decide) (Evt.ok _))
  | true => exact Evt.bind ((goodNet_ev p ts h).cast hg) (Evt.pos rfl (Evt.bind (goodMark_ev p m hm) ((Evt.ok _).cast (by simp))))
end Go.Proofs.Ytiglhdibibbkjaa.Lib
