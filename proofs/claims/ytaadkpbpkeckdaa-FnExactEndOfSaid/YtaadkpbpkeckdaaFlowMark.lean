/- What marking a flow's rows comes to. -/
import Derived.Test.YtaadkpbpkeckdaaF7
import Derived.Test.YtaadkpbpkeckdaaFlow
import Derived.Test.YtaadkpbpkeckdaaNetMark
namespace Go.Proofs.Ytaadkpbpkeckdaa.Lib
open Go.RowKit Go.Proofs.Ytaadkpbpkeckdaa.F Go.Proofs.YtaadkpbpkeckdaaW.PrintWords Go.Proofs.YtaadkpbpkeckdaaW.PrintLast Go.Proofs.YtaadkpbpkeckdaaW.PrintMore
set_option linter.unusedVariables false
set_option linter.unusedSimpArgs false
theorem markFlow_ev (p : Int) (ts : List Tr) (u v : Int) (h : SmallN ts) (n : Nat) (hn : n ≤ 1048576) : ∃ m : Nat, Evt (fun k => laws_markFlow.f k p ts u v (n : Int)) (m : Int) ∧ m ≤ 4611686018427387904 / 2 := markNet_ev p ts h n hn
end Go.Proofs.Ytaadkpbpkeckdaa.Lib
