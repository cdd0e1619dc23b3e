import Derived.Test.YtiglhdibibbkjaaF0
import Derived.Test.YtiglhdibibbkjaaF4
import Derived.Test.YtiglhdibibbkjaaF9
import Derived.Test.YtiglhdibibbkjaaExplore
namespace Go.Proofs.Ytiglhdibibbkjaa.Lib
open Go.RowKit Go.Proofs.Ytiglhdibibbkjaa.F Go.Proofs.YtiglhdibibbkjaaW.PrintWords Go.Proofs.YtiglhdibibbkjaaW.PrintLast Go.Proofs.YtiglhdibibbkjaaW.PrintMore
def byIs (A:List ArcT) (x:Int):Bool:=A.any fun a=>a.f1 == x
def deadL (A:List ArcT) (n:Nat):List Int:=picks (fun i=>!byIs A (i:Int)) 0 n
theorem l4Dead_ev (p:Int) (ts:List Tr) (M:List (List Int)) (A:List ArcT) (hs:SmallN ts) (hA:A.length≤9600):Evt (fun k=>spec_l4Dead.f k p ts M A) (deadL A ts.length):=by
  have hl:=hs.1
  have inner:∀ (s:List Int) (i:Nat) (r:List Int),Evt (fun k=>if byIs A (i:Int)=true then (spec_l4Dead.l0 k s (ts.length:Int) (wrap64 ((i:Int)+1)) M A) else (if s.length<17592186044416 then (spec_l4Dead.l0 k (s ++ [(i:Int)]) (ts.length:Int) (wrap64 ((i:Int)+1)) M A) else none)) r →
      Evt (fun k=>spec_l4Dead.l1 k s (i:Int) false (ts.length:Int) (i:Int) A (A.length:Int) 0 M A) r:=by
    intro s i r hr
    have key:∀ j,j≤A.length → ∀ c:Bool,(c || byIs (A.drop j) (i:Int))=byIs A (i:Int)→Evt (fun k=>spec_l4Dead.l1 k s (i:Int) c (ts.length:Int) (i:Int) A (A.length:Int) (j:Int) M A) r:=by
      refine down (P:=fun j (c:Bool)=>(c || byIs (A.drop j) (i:Int))=byIs A (i:Int)→Evt (fun k=>spec_l4Dead.l1 k s (i:Int) c (ts.length:Int) (i:Int) A (A.length:Int) (j:Int) M A) r) ?_ ?_
      · intro c hc
        have hc' : byIs A (i:Int)=c:=by rw [← hc,List.drop_length];simp [byIs]
        refine Evt.step ?_
        simp only [spec_l4Dead.l1]
        rw [hc'] at hr
        exact Evt.neg (natNotLt _) hr
      · intro j hj ih c hc
        have er:rd_T115 A (j:Int)=A[j]:=rdG A _ j hj
        rw [dropN A j hj] at hc
        refine Evt.step ?_
        simp only [spec_l4Dead.l1,er]
        rw [wrapN j _ hj (by omega)]
        refine Evt.pos (natLt _ _ hj) (Evt.pos (by omega) (Evt.pos (natLt _ _ hj) ?_))
        cases hcc:c with
        | true=>exact Evt.pos rfl (ih true (by rw [← hc,hcc];simp))
        | false=>exact Evt.neg (by decide) (ih _ (by rw [← hc,hcc];simp [byIs,-List.getElem_cons_drop]))
    exact key 0 (Nat.zero_le _) false (by simp)
  unfold spec_l4Dead.f
  refine loop_picks (fun k s (i:Nat)=>spec_l4Dead.l0 k s (ts.length:Int) (i:Int) M A) (fun s=>s) ts.length _ ?_ ?_ ?_
  · intro s
    simp only [spec_l4Dead.l0]
    exact Evt.neg (natNotLt _) (Evt.ok _)
  · intro i hi hT s hs r hr
    simp only [spec_l4Dead.l0]
    refine Evt.pos (natLt _ _ hi) (inner s i r ?_)
    rw [wrapN i _ hi (by omega)]
    rw [Bool.not_eq_true'] at hT
    exact Evt.neg (by rw [hT];decide) (Evt.pos (by omega) hr)
  · intro i hi hT s r hr
    simp only [spec_l4Dead.l0]
    refine Evt.pos (natLt _ _ hi) (inner s i r ?_)
    rw [wrapN i _ hi (by omega)]
    exact Evt.pos (by simpa using hT) hr
theorem deadTrans_ev (p:Int) (ts:List Tr) (M:List (List Int)) (A:List ArcT) (hs:SmallN ts) (hA:A.length≤9600):Evt (fun k=>impl_Space_deadTrans.f k M A p ts) (deadL A ts.length):=by
  have hl:=hs.1
  have hAs:Short A:=by show A.length≤_;omega
  have hc:∀ x:Int,Evt (fun k=>slices_ContainsFunc_impl_Arc_impl_Arc_at_impl_Space_deadTrans_1.f k A x) (byIs A x):=by
    intro x
    refine containsFunc_gen (fun k (a:ArcT)=>impl_Space_deadTrans_1.f a.f0 a.f1 a.f2 x) (fun a=>a.f1 == x) (rd_T115 A) (fun k i=>slices_IndexFunc_impl_Arc_impl_Arc_at_impl_Space_deadTrans_1.l0 k A (A.length:Int) i x) _ A ?_ ?_ ?_ ?_ hAs
    · intro k;rfl
    · intro k i;simp only [slices_IndexFunc_impl_Arc_impl_Arc_at_impl_Space_deadTrans_1.l0]
    · intro a ha;exact Evt.ok _
    · intro i hi;exact rdG A _ i hi
  unfold impl_Space_deadTrans.f
  refine loop_picks (fun k s (i:Nat)=>impl_Space_deadTrans.l0 k s (ts.length:Int) (i:Int) M A) (fun s=>s) ts.length _ ?_ ?_ ?_
  · intro s
    simp only [impl_Space_deadTrans.l0]
    exact Evt.neg (natNotLt _) (Evt.ok _)
  · intro i hi hT s hs r hr
    simp only [impl_Space_deadTrans.l0]
    rw [wrapN i _ hi (by omega)]
    rw [Bool.not_eq_true'] at hT
    exact Evt.pos (natLt _ _ hi) (Evt.bind ((hc _).cast hT) (Evt.neg (by decide) (Evt.pos (by omega) hr)))
  · intro i hi hT s r hr
    simp only [impl_Space_deadTrans.l0]
    rw [wrapN i _ hi (by omega)]
    exact Evt.pos (natLt _ _ hi) (Evt.bind ((hc _).cast (by simpa using hT)) (Evt.pos rfl hr))
end Go.Proofs.Ytiglhdibibbkjaa.Lib
