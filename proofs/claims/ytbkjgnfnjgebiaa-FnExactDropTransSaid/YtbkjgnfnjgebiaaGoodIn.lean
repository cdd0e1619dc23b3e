import Derived.Test.YtbkjgnfnjgebiaaGood
namespace Go.Proofs.Ytbkjgnfnjgebiaa.Lib
open Go.RowKit Go.Proofs.Ytbkjgnfnjgebiaa.F Go.Proofs.YtbkjgnfnjgebiaaW.PrintWords Go.Proofs.YtbkjgnfnjgebiaaW.PrintLast Go.Proofs.YtbkjgnfnjgebiaaW.PrintMore
def inNet (n : Nat) (t : Tr) : Prop := (∀ q ∈ t.f0, 0 ≤ q ∧ q < (n : Int)) ∧ (∀ q ∈ t.f1, 0 ≤ q ∧ q < (n : Int)) ∧ (∀ q ∈ t.f2, 0 ≤ q ∧ q < (n : Int))
theorem good_inNet {p : Int} {ts : List Tr} (hg : goodNet p ts = true) (n : Nat) (hn : p = (n : Int)) : ∀ t ∈ ts, inNet n t := by
  have hf := goodNet_facts hg
  intro t ht
  have h := hf.2.2.2 t ht
  exact ⟨fun q hq => by have := rising_le h.2.1 q hq; omega, fun q hq => by have := rising_le h.2.2.1 q hq; omega, fun q hq => by have := rising_le h.2.2.2 q hq; omega⟩
end Go.Proofs.Ytbkjgnfnjgebiaa.Lib
