import Derived.Test.YtbkjgnfnjgebiaaNetLib
namespace Go.Proofs.Ytbkjgnfnjgebiaa.Lib
open Go.RowKit Go.Proofs.YtbkjgnfnjgebiaaW.PrintWords
def has (l : List Int) (x : Int) : Bool := l.any fun y => decide (y = x)
end Go.Proofs.Ytbkjgnfnjgebiaa.Lib
