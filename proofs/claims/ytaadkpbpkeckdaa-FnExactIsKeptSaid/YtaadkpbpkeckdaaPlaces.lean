import Derived.Test.YtaadkpbpkeckdaaGood
namespace Go.Proofs.Ytaadkpbpkeckdaa.Lib
open Go.RowKit Go.Proofs.Ytaadkpbpkeckdaa.F Go.Proofs.YtaadkpbpkeckdaaW.PrintWords Go.Proofs.YtaadkpbpkeckdaaW.PrintLast Go.Proofs.YtaadkpbpkeckdaaW.PrintMore
def inPlaces (t : Tr) : Prop := (∀ q ∈ t.f0, 0 ≤ q ∧ q < 16) ∧ (∀ q ∈ t.f1, 0 ≤ q ∧ q < 16)
theorem good_inPlaces {p : Int} {ts : List Tr} (hg : goodNet p ts = true) : ∀ t ∈ ts, inPlaces t := by
  have hf := goodNet_facts hg
  intro t ht
  have h := hf.2.2.2 t ht
  exact ⟨fun q hq => by have := rising_le h.2.1 q hq; omega, fun q hq => by have := rising_le h.2.2.1 q hq; omega⟩
end Go.Proofs.Ytaadkpbpkeckdaa.Lib
