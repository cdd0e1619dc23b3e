import Derived.Test.YtbkjgnfnjgebiaaF2
import Derived.Test.YtbkjgnfnjgebiaaF5
import Derived.Test.YtbkjgnfnjgebiaaInts
namespace Go.Proofs.Ytbkjgnfnjgebiaa.Lib
open Go.RowKit Go.Proofs.Ytbkjgnfnjgebiaa.F Go.Proofs.YtbkjgnfnjgebiaaW.PrintWords Go.Proofs.YtbkjgnfnjgebiaaW.PrintLast Go.Proofs.YtbkjgnfnjgebiaaW.PrintMore
def over (n:Nat) (a b:List Int):Bool:=(List.range n).all fun i=>decide (¬ a.getD i 0<b.getD i 0)
theorem l1Covers_ev (a b:List Int) (hb:Short b) (hab:b.length≤a.length):Evt (fun k=>spec_l1Covers.f k a b) (over b.length a b):=by
  have hb' : b.length≤17592186044415:=hb
  unfold spec_l1Covers.f over
  refine loop_all (fun k i=>spec_l1Covers.l0 k a b (b.length:Int) (i:Int)) b.length _ ?_ ?_ ?_
  · simp only [spec_l1Covers.l0]
    exact Evt.neg (natNotLt _) (Evt.ok _)
  · intro i hi ht r h
    simp only [spec_l1Covers.l0,rdD,wrapN i _ hi (by omega)]
    exact Evt.pos (natLt _ _ hi) (Evt.pos (by omega) (Evt.pos (natLt _ _ hi) (Evt.pos (by omega) (Evt.neg (of_decide_eq_true ht) h))))
  · intro i hi ht
    simp only [spec_l1Covers.l0,rdD]
    exact Evt.pos (natLt _ _ hi) (Evt.pos (by omega) (Evt.pos (natLt _ _ hi) (Evt.pos (by omega) (Evt.pos (by have:=of_decide_eq_false ht;omega) (Evt.ok _)))))
theorem covers_ev (a b:List Int) (ha:Short a) (hab:a.length≤b.length):Evt (fun k=>impl_covers.f k a b) (over a.length a b):=by
  have ha' : a.length≤17592186044415:=ha
  unfold impl_covers.f over
  refine loop_all (fun k i=>impl_covers.l0 k b a (a.length:Int) (i:Int)) a.length _ ?_ ?_ ?_
  · simp only [impl_covers.l0]
    exact Evt.neg (natNotLt _) (Evt.ok _)
  · intro i hi ht r h
    simp only [impl_covers.l0,rdD,wrapN i _ hi (by omega)]
    exact Evt.pos (natLt _ _ hi) (Evt.pos (by omega) (Evt.pos (natLt _ _ hi) (Evt.pos (by omega) (Evt.neg (of_decide_eq_true ht) h))))
  · intro i hi ht
    simp only [impl_covers.l0,rdD]
    exact Evt.pos (natLt _ _ hi) (Evt.pos (by omega) (Evt.pos (natLt _ _ hi) (Evt.pos (by omega) (Evt.pos (by have:=of_decide_eq_false ht;omega) (Evt.ok _)))))
end Go.Proofs.Ytbkjgnfnjgebiaa.Lib
