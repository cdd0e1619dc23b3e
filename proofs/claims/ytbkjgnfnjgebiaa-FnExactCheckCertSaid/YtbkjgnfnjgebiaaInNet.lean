import Derived.Test.YtbkjgnfnjgebiaaGoodIn
import Derived.Test.YtbkjgnfnjgebiaaMarksS
namespace Go.Proofs.Ytbkjgnfnjgebiaa.Lib
open Go.RowKit Go.Proofs.Ytbkjgnfnjgebiaa.F Go.Proofs.YtbkjgnfnjgebiaaW.PrintWords Go.Proofs.YtbkjgnfnjgebiaaW.PrintLast Go.Proofs.YtbkjgnfnjgebiaaW.PrintMore
end Go.Proofs.Ytbkjgnfnjgebiaa.Lib
