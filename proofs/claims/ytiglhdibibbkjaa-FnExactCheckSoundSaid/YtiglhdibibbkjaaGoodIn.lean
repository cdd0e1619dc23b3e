import Derived.Test.YtiglhdibibbkjaaGood
namespace Go.Proofs.Ytiglhdibibbkjaa.Lib
open Go.RowKit Go.Proofs.Ytiglhdibibbkjaa.F Go.Proofs.YtiglhdibibbkjaaW.PrintWords Go.Proofs.YtiglhdibibbkjaaW.PrintLast Go.Proofs.YtiglhdibibbkjaaW.PrintMore
def inNet (n:Nat) (t:Tr):Prop:=(∀ q ∈ t.f0,0≤q∧q<(n:Int))∧(∀ q ∈ t.f1,0≤q∧q<(n:Int))∧(∀ q ∈ t.f2,0≤q∧q<(n:Int))
theorem good_inNet {p:Int} {ts:List Tr} (hg:goodNet p ts=true) (n:Nat) (hn:p=(n:Int)):∀ t ∈ ts,inNet n t:=by
  have hf:=goodNet_facts hg
  intro t ht
  have h:=hf.2.2.2 t ht
  exact ⟨fun q hq=>by have:=rising_le h.2.1 q hq;omega,fun q hq=>by have:=rising_le h.2.2.1 q hq;omega,fun q hq=>by have:=rising_le h.2.2.2 q hq;omega⟩
end Go.Proofs.Ytiglhdibibbkjaa.Lib
