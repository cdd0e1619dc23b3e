import Derived.Test.YtoicemlndofphaaGreatNetLib
namespace Go.Proofs.YtoicemlndofphaaGreat.Lib
open Go.RowKit Go.Proofs.YtoicemlndofphaaGreatW.PrintWords
def has (l : List Int) (x : Int) : Bool := l.any fun y => decide (y = x)
end Go.Proofs.YtoicemlndofphaaGreat.Lib
