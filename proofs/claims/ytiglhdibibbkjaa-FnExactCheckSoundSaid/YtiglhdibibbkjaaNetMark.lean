import Derived.Test.YtiglhdibibbkjaaF0
import Derived.Test.YtiglhdibibbkjaaF11
import Derived.Test.YtiglhdibibbkjaaNet
import Derived.Test.YtiglhdibibbkjaaHeld
namespace Go.Proofs.Ytiglhdibibbkjaa.Lib
open Go.RowKit Go.Proofs.Ytiglhdibibbkjaa.F Go.Proofs.YtiglhdibibbkjaaW.PrintWords Go.Proofs.YtiglhdibibbkjaaW.PrintLast Go.Proofs.YtiglhdibibbkjaaW.PrintMore
theorem markTransS_ev (ts:List Tr) (h:SmallN ts) (n:Nat) (hn:n≤1048576):∃ m:Nat,Evt (fun k=>laws_markTransS.f k ts (n:Int)) (m:Int)∧m≤4611686018427387904 / 2:=by
  have hl:=h.1
  have key:∀ i,i≤ts.length → ∀ n:Nat,n≤1048576+i*3145728 → ∃ m:Nat,Evt (fun k=>laws_markTransS.l0 k ts (n:Int) (i:Int)) (m:Int)∧m≤1048576+ts.length*3145728:=by
    refine down (P:=fun i (n:Nat)=>n≤1048576+i*3145728 → ∃ m:Nat,Evt (fun k=>laws_markTransS.l0 k ts (n:Int) (i:Int)) (m:Int)∧m≤1048576+ts.length*3145728) ?_ ?_
    · intro n hn
      refine ⟨n,Evt.step ?_,hn⟩
      simp only [laws_markTransS.l0]
      exact Evt.neg (natNotLt _) (Evt.ok _)
    · intro i hi ih n hn
      have hsm:SmallT ts[i]:=h.2 _ (List.getElem_mem hi)
      have h0:ts[i].f0.length≤1048576:=hsm.1
      have h1:ts[i].f1.length≤1048576:=hsm.2.1
      have h2:ts[i].f2.length≤1048576:=hsm.2.2
      have er:rd_T105 ts (i:Int)=ts[i]:=rdG ts _ i hi
      obtain ⟨m,hm,hb⟩:=ih (n+ts[i].f0.length+ts[i].f1.length+ts[i].f2.length) (by omega)
      refine ⟨m,Evt.step ?_,hb⟩
      simp only [laws_markTransS.l0,er]
      rw [wrapN i _ hi (by omega)]
      exact Evt.pos (natLt _ _ hi) (Evt.pos (by omega) (Evt.bind (markIntS_ev _ n (by omega)) (Evt.bind (markIntS_ev _ (n+ts[i].f0.length) (by omega)) (Evt.bind (markIntS_ev _ (n+ts[i].f0.length+ts[i].f1.length) (by omega)) hm))))
  obtain ⟨m,hm,hb⟩:=key 0 (Nat.zero_le _) n (by omega)
  exact ⟨m,hm,by omega⟩
theorem markNet_ev (p:Int) (ts:List Tr) (h:SmallN ts) (n:Nat) (hn:n≤1048576):∃ m:Nat,Evt (fun k=>laws_markNet.f k p ts (n:Int)) (m:Int)∧m≤4611686018427387904 / 2:=markTransS_ev ts h n hn
end Go.Proofs.Ytiglhdibibbkjaa.Lib
