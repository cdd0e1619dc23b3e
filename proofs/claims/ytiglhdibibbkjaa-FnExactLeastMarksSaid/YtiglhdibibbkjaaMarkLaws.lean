import Derived.Test.YtiglhdibibbkjaaF0
import Derived.Test.YtiglhdibibbkjaaF1
import Derived.Test.YtiglhdibibbkjaaMarks
namespace Go.Proofs.Ytiglhdibibbkjaa.Lib
open Go.RowKit Go.Proofs.Ytiglhdibibbkjaa.F Go.Proofs.YtiglhdibibbkjaaW.PrintWords Go.Proofs.YtiglhdibibbkjaaW.PrintLast Go.Proofs.YtiglhdibibbkjaaW.PrintMore
theorem areMarks_ev (p : Int) (ls : List (List Int)) (hs : Short ls) (hl : ∀ l ∈ ls, Short l) : Evt (fun k => impl_areMarks.f k p ls) (ls.all (goodMark p)) := by
  unfold impl_areMarks.f
  refine Evt.bind (containsFunc_gen (fun k x => impl_areMarks_1.f k x p) (fun x => !goodMark p x) (fun i => rd_L1 ls i) (fun k i => slices_IndexFunc_int_int_at_impl_areMarks_1.l0 k ls (ls.length : Int) i p) _ ls (fun k => rfl) (fun k i => rfl) (fun x hx => ?_) (fun i h => ?_) hs) ((Evt.ok _).cast (any_not ls (goodMark p)))
  · unfold impl_areMarks_1.f
    exact Evt.bind (goodMark_ev p x (hl x hx)) (Evt.ok _)
  · simp [rd_L1, List.getD_eq_getElem?_getD, List.getElem?_eq_getElem h]
end Go.Proofs.Ytiglhdibibbkjaa.Lib
