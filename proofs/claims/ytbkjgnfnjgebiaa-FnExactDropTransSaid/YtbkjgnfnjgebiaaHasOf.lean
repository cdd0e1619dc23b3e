import Derived.Test.YtbkjgnfnjgebiaaF2
import Derived.Test.YtbkjgnfnjgebiaaHas
namespace Go.Proofs.Ytbkjgnfnjgebiaa.Lib
open Go.RowKit Go.Proofs.Ytbkjgnfnjgebiaa.F Go.Proofs.YtbkjgnfnjgebiaaW.PrintWords Go.Proofs.YtbkjgnfnjgebiaaW.PrintLast Go.Proofs.YtbkjgnfnjgebiaaW.PrintMore
theorem l1Has_ev (l : List Int) (x : Int) (hl : Short l) : Evt (fun k => spec_l1Has.f k l x) (has l x) := by
  have hl' : l.length ≤ 17592186044415 := hl
  unfold spec_l1Has.f
  refine loop_anyL (fun k i => spec_l1Has.l0 k x l (l.length : Int) (i : Int)) l (fun y => decide (y = x)) ?_ ?_ ?_
  · simp only [spec_l1Has.l0]
    exact Evt.neg (natNotLt _) (Evt.ok _)
  · intro i hi hp r hr
    simp only [spec_l1Has.l0]
    rw [wrapN i _ hi (by omega), rdN l i hi]
    exact Evt.pos (natLt _ _ hi) (Evt.pos (by omega) (Evt.pos (natLt _ _ hi) (Evt.neg (of_decide_eq_false hp) hr)))
  · intro i hi hp
    simp only [spec_l1Has.l0]
    rw [rdN l i hi]
    exact Evt.pos (natLt _ _ hi) (Evt.pos (by omega) (Evt.pos (natLt _ _ hi) (Evt.pos (of_decide_eq_true hp) (Evt.ok _))))
end Go.Proofs.Ytbkjgnfnjgebiaa.Lib
