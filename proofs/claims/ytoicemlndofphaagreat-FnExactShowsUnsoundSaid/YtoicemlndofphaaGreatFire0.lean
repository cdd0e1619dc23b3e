import Derived.Test.YtoicemlndofphaaGreatF8
import Derived.Test.YtoicemlndofphaaGreatMarkSame
namespace Go.Proofs.YtoicemlndofphaaGreat.Lib
open Go.RowKit Go.Proofs.YtoicemlndofphaaGreat.F Go.Proofs.YtoicemlndofphaaGreatW.PrintWords Go.Proofs.YtoicemlndofphaaGreatW.PrintLast Go.Proofs.YtoicemlndofphaaGreatW.PrintMore
theorem isTrans_eq (p : Int) (ts : List Tr) (x : Int) : impl_isTrans.f p ts x = some (within x 0 (wrap64 ((ts.length : Int) - 1))) := by
  simp only [impl_isTrans.f, within_eq, Option.bind_some]
theorem checkedMark_ev (l : List Int) (hl : Short l) : Evt (fun k => impl_checkedMark.f k l) (if allIn l 0 50 = true then (l, true) else ([], false)) := by
  unfold impl_checkedMark.f
  refine Evt.bind (allWithin_ev l 0 50 hl) ?_
  cases h : allIn l 0 50 with
  | true => exact Evt.pos rfl (Evt.ok _)
  | false => exact Evt.neg (by decide) (Evt.ok _)
end Go.Proofs.YtoicemlndofphaaGreat.Lib
