import Derived.Test.YthkmdanahoongaaGoodIn
import Derived.Test.YthkmdanahoongaaMarksS
namespace Go.Proofs.Ythkmdanahoongaa.Lib
open Go.RowKit Go.Proofs.Ythkmdanahoongaa.F Go.Proofs.YthkmdanahoongaaW.PrintWords Go.Proofs.YthkmdanahoongaaW.PrintLast Go.Proofs.YthkmdanahoongaaW.PrintMore
def marked (p : Int) (ts : List Tr) (m : List Int) : Bool := goodNet p ts && goodMark p m
theorem marked_facts {p : Int} {ts : List Tr} {m : List Int} (h : marked p ts m = true) : goodNet p ts = true ∧ goodMark p m = true := by
  simpa [marked] using h
theorem marked_inNet {p : Int} {ts : List Tr} {m : List Int} (h : marked p ts m = true) : ∀ t ∈ ts, inNet m.length t := by
  have hf := marked_facts h
  have hb := goodMark_bounds hf.2
  exact good_inNet hf.1 m.length (by omega)
end Go.Proofs.Ythkmdanahoongaa.Lib
