import Derived.Test.YthkmdanahoongaaNetLib
namespace Go.Proofs.Ythkmdanahoongaa.Lib
open Go.RowKit Go.Proofs.YthkmdanahoongaaW.PrintWords
def has (l : List Int) (x : Int) : Bool := l.any fun y => decide (y = x)
end Go.Proofs.Ythkmdanahoongaa.Lib
