import Derived.Test.YtiglhdibibbkjaaGoodIn
import Derived.Test.YtiglhdibibbkjaaMarksS
namespace Go.Proofs.Ytiglhdibibbkjaa.Lib
open Go.RowKit Go.Proofs.Ytiglhdibibbkjaa.F Go.Proofs.YtiglhdibibbkjaaW.PrintWords Go.Proofs.YtiglhdibibbkjaaW.PrintLast Go.Proofs.YtiglhdibibbkjaaW.PrintMore
def marked (p : Int) (ts : List Tr) (m : List Int) : Bool := goodNet p ts && goodMark p m
theorem marked_facts {p : Int} {ts : List Tr} {m : List Int} (h : marked p ts m = true) : goodNet p ts = true ∧ goodMark p m = true := by
  simpa [marked] using h
theorem marked_inNet {p : Int} {ts : List Tr} {m : List Int} (h : marked p ts m = true) : ∀ t ∈ ts, inNet m.length t := by
  have hf := marked_facts h
  have hb := goodMark_bounds hf.2
  exact good_inNet hf.1 m.length (by omega)
end Go.Proofs.Ytiglhdibibbkjaa.Lib
