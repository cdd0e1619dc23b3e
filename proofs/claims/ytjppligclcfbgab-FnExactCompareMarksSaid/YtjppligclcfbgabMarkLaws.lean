/- The plain statements on TotalOf, Covers: what the program says is what the reference says. -/
import Derived.Test.YtjppligclcfbgabF0
import Derived.Test.YtjppligclcfbgabF2
import Derived.Test.YtjppligclcfbgabMarks
namespace Go.Proofs.Ytjppligclcfbgab.Lib
open Go.RowKit Go.Proofs.Ytjppligclcfbgab.F Go.Proofs.YtjppligclcfbgabW.PrintWords Go.Proofs.YtjppligclcfbgabW.PrintLast Go.Proofs.YtjppligclcfbgabW.PrintMore
set_option linter.unusedVariables false
set_option linter.unusedSimpArgs false
theorem areMarks_ev (p : Int) (ls : List (List Int)) (hs : Short ls) (hl : ∀ l ∈ ls, Short l) : Evt (fun k => impl_areMarks.f k p ls) (ls.all (goodMark p)) := by
  unfold impl_areMarks.f
  refine Evt.bind (containsFunc_gen (fun k x => impl_areMarks_1.f k x p) (fun x => !goodMark p x) (fun i => rd_L1 ls i) (fun k i => slices_IndexFunc_int_int_at_impl_areMarks_1.l0 k ls (ls.length : Int) i p) _ ls (fun k => rfl) (fun k i => rfl) (fun x hx => ?_) (fun i h => ?_) hs) ((Evt.ok _).cast (any_not ls (goodMark p)))
  · unfold impl_areMarks_1.f
    exact Evt.bind (goodMark_ev p x (hl x hx)) (Evt.ok _)
  · simp [rd_L1, List.getD_eq_getElem?_getD, List.getElem?_eq_getElem h]
end Go.Proofs.Ytjppligclcfbgab.Lib
