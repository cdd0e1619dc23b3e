import Derived.Test.YtiglhdibibbkjaaGoodIn
import Derived.Test.YtiglhdibibbkjaaMarksS
namespace Go.Proofs.Ytiglhdibibbkjaa.Lib
open Go.RowKit Go.Proofs.Ytiglhdibibbkjaa.F Go.Proofs.YtiglhdibibbkjaaW.PrintWords Go.Proofs.YtiglhdibibbkjaaW.PrintLast Go.Proofs.YtiglhdibibbkjaaW.PrintMore
end Go.Proofs.Ytiglhdibibbkjaa.Lib
