import Derived.Test.YtiglhdibibbkjaaF0
import Derived.Test.YtiglhdibibbkjaaInNet
namespace Go.Proofs.Ytiglhdibibbkjaa.Lib
open Go.RowKit Go.Proofs.Ytiglhdibibbkjaa.F Go.Proofs.YtiglhdibibbkjaaW.PrintWords Go.Proofs.YtiglhdibibbkjaaW.PrintLast Go.Proofs.YtiglhdibibbkjaaW.PrintMore
theorem goodMark_same {p:Int} {m r:List Int} (hm:goodMark p m=true) (hr:r.length=m.length):goodMark p r=allIn r 0 50:=by
  have hb:=goodMark_bounds hm
  have h1:within p 1 16=true:=by unfold within;exact decide_eq_true ⟨hb.1,hb.2.1⟩
  unfold goodMark
  rw [h1,decide_eq_true (show (r.length:Int)=p by omega)];simp
end Go.Proofs.Ytiglhdibibbkjaa.Lib
