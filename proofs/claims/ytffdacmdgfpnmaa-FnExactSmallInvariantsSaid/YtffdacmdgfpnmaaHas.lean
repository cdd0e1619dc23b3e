import Derived.Test.YtffdacmdgfpnmaaNetLib
namespace Go.Proofs.Ytffdacmdgfpnmaa.Lib
open Go.RowKit Go.Proofs.YtffdacmdgfpnmaaW.PrintWords
def has (l : List Int) (x : Int) : Bool := l.any fun y => decide (y = x)
end Go.Proofs.Ytffdacmdgfpnmaa.Lib
