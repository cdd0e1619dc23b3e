import Derived.Test.YthkmdanahoongaaF1
import Derived.Test.YthkmdanahoongaaF2
import Derived.Test.YthkmdanahoongaaInNet
import Derived.Test.YthkmdanahoongaaMarks
namespace Go.Proofs.Ythkmdanahoongaa.Lib
open Go.RowKit Go.Proofs.Ythkmdanahoongaa.F Go.Proofs.YthkmdanahoongaaW.PrintWords Go.Proofs.YthkmdanahoongaaW.PrintLast Go.Proofs.YthkmdanahoongaaW.PrintMore
theorem l2Marked_ev (p : Int) (ts : List Tr) (m : List Int) (h : SmallN ts) (hm : Short m) : Evt (fun k => spec_l2Marked.f k p ts m) (marked p ts m) := by
  unfold spec_l2Marked.f marked
  cases hg : goodNet p ts with
  | false => exact Evt.bind ((specGoodNet_ev p ts h).cast hg) (Evt.neg (by decide) (Evt.ok _))
  | true => exact Evt.bind ((specGoodNet_ev p ts h).cast hg) (Evt.pos rfl (Evt.bind (specGoodMark_ev p m hm) ((Evt.ok _).cast (by simp))))
theorem isMarked_ev (p : Int) (ts : List Tr) (m : List Int) (h : SmallN ts) (hm : Short m) : Evt (fun k => impl_isMarked.f k p ts m) (marked p ts m) := by
  unfold impl_isMarked.f marked
  cases hg : goodNet p ts with
  | false => exact Evt.bind ((goodNet_ev p ts h).cast hg) (Evt.neg (by decide) (Evt.ok _))
  | true => exact Evt.bind ((goodNet_ev p ts h).cast hg) (Evt.pos rfl (Evt.bind (goodMark_ev p m hm) ((Evt.ok _).cast (by simp))))
end Go.Proofs.Ythkmdanahoongaa.Lib
