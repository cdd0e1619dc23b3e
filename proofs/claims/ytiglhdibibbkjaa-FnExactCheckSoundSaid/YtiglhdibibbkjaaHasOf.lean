import Derived.Test.YtiglhdibibbkjaaF1
import Derived.Test.YtiglhdibibbkjaaHas
namespace Go.Proofs.Ytiglhdibibbkjaa.Lib
open Go.RowKit Go.Proofs.Ytiglhdibibbkjaa.F Go.Proofs.YtiglhdibibbkjaaW.PrintWords Go.Proofs.YtiglhdibibbkjaaW.PrintLast Go.Proofs.YtiglhdibibbkjaaW.PrintMore
theorem l1Has_ev (l:List Int) (x:Int) (hl:Short l):Evt (fun k=>spec_l1Has.f k l x) (has l x):=by
  have hl' : l.length≤17592186044415:=hl
  unfold spec_l1Has.f
  refine loop_anyL (fun k i=>spec_l1Has.l0 k x l (l.length:Int) (i:Int)) l (fun y=>decide (y=x)) ?_ ?_ ?_
  · simp only [spec_l1Has.l0]
    exact Evt.neg (natNotLt _) (Evt.ok _)
  · intro i hi hp r hr
    simp only [spec_l1Has.l0]
    rw [wrapN i _ hi (by omega),rdN l i hi]
    exact Evt.pos (natLt _ _ hi) (Evt.pos (by omega) (Evt.pos (natLt _ _ hi) (Evt.neg (of_decide_eq_false hp) hr)))
  · intro i hi hp
    simp only [spec_l1Has.l0]
    rw [rdN l i hi]
    exact Evt.pos (natLt _ _ hi) (Evt.pos (by omega) (Evt.pos (natLt _ _ hi) (Evt.pos (of_decide_eq_true hp) (Evt.ok _))))
end Go.Proofs.Ytiglhdibibbkjaa.Lib
