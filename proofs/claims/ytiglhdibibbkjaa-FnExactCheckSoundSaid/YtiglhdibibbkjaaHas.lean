import Derived.Test.YtiglhdibibbkjaaNetLib
namespace Go.Proofs.Ytiglhdibibbkjaa.Lib
open Go.RowKit Go.Proofs.YtiglhdibibbkjaaW.PrintWords
def has (l:List Int) (x:Int):Bool:=l.any fun y=>decide (y=x)
end Go.Proofs.Ytiglhdibibbkjaa.Lib
