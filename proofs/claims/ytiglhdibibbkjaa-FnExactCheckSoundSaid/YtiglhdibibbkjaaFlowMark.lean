import Derived.Test.YtiglhdibibbkjaaF11
import Derived.Test.YtiglhdibibbkjaaFlow
import Derived.Test.YtiglhdibibbkjaaNetMark
namespace Go.Proofs.Ytiglhdibibbkjaa.Lib
open Go.RowKit Go.Proofs.Ytiglhdibibbkjaa.F Go.Proofs.YtiglhdibibbkjaaW.PrintWords Go.Proofs.YtiglhdibibbkjaaW.PrintLast Go.Proofs.YtiglhdibibbkjaaW.PrintMore
theorem markFlow_ev (p:Int) (ts:List Tr) (u v:Int) (h:SmallN ts) (n:Nat) (hn:n≤1048576):∃ m:Nat,Evt (fun k=>laws_markFlow.f k p ts u v (n:Int)) (m:Int)∧m≤4611686018427387904 / 2:=markNet_ev p ts h n hn
end Go.Proofs.Ytiglhdibibbkjaa.Lib
