import Derived.Test.YtiglhdibibbkjaaF2
import Derived.Test.YtiglhdibibbkjaaF4
import Derived.Test.YtiglhdibibbkjaaF7
import Derived.Test.YtiglhdibibbkjaaF10
import Derived.Test.YtiglhdibibbkjaaF11
import Derived.Test.YtiglhdibibbkjaaF12
import Derived.Test.YtiglhdibibbkjaaCheck
import Derived.Test.YtiglhdibibbkjaaFlowMark
namespace Go.Proofs.Ytiglhdibibbkjaa.Pure
open Go.RowKit Go.Proofs.Ytiglhdibibbkjaa.F Go.Proofs.Ytiglhdibibbkjaa.Lib Go.Proofs.YtiglhdibibbkjaaW.PrintWords Go.Proofs.YtiglhdibibbkjaaW.PrintLast
theorem core_CheckSound (p:Int) (ts:List Tr) (u v b:Int) (hs:SmallN ts):∃ x:Int × Int × List Int × Int × Bool,Evt (fun k=>spec_CheckSound.f k p ts u v b) x∧Evt (fun k=>impl_CheckSound.f k p ts u v b) x∧x.2.2.1.length≤60:=by
  obtain ⟨c,h1,h2,h3⟩:=goodFlow_ex p ts u v hs
  unfold spec_CheckSound.f impl_CheckSound.f spec_l9Asked.f impl_isChecked.f
  simp only [l1In_eq,within_eq,Option.bind_some]
  cases c with
  | false=>exact ⟨(0,0,[],0,false),Evt.bind (Evt.bind h1 (Evt.neg (by decide) (Evt.ok false))) (Evt.neg (by decide) (Evt.ok _)),Evt.bind (Evt.bind h2 (Evt.neg (by decide) (Evt.ok false))) (Evt.neg (by decide) (Evt.ok _)),by simp⟩
  | true =>
    have g1:=fun w (hw:within b 1 400=w)=>Evt.bind (g:=fun (k:Nat) (t:Bool)=>if t=true then (some (within b 1 400)) else (some false)) h1 (Evt.pos rfl ((Evt.ok _).cast hw))
    have g2:=fun w (hw:within b 1 400=w)=>Evt.bind (g:=fun (k:Nat) (t:Bool)=>if t=true then (some (within b 1 400)) else (some false)) h2 (Evt.pos rfl ((Evt.ok _).cast hw))
    cases hb:within b 1 400 with
    | false=>rw [hb] at g1 g2;exact ⟨(0,0,[],0,false),Evt.bind (g1 false rfl) (Evt.neg (by decide) (Evt.ok _)),Evt.bind (g2 false rfl) (Evt.neg (by decide) (Evt.ok _)),by simp⟩
    | true =>
      rw [hb] at g1 g2
      have h:=h3 rfl
      obtain ⟨c,l,w,t,M,A,v1,v2,v3,_⟩:=verdict_ex p ts u v b hs h.1 h.2.1 h.2.2 (within_bounds hb)
      exact ⟨(c,l,w,t,true),Evt.bind (g1 true rfl) (Evt.pos rfl v1),Evt.bind (g2 true rfl) (Evt.pos rfl (Evt.bind v2 (Evt.ok _))),v3⟩
theorem FnExactCheckSound:laws_FnExactCheckSound.Pure:=by
  intro p l u v x1 hw _
  refine Evt.get ?_
  obtain ⟨r,hr,gr⟩:=szFlow_ex p l u v 1048576 (by omega) (by omega) hw.2.1.1 (fun t ht=>⟨(hw.2.1.2 t ht).1.1,(hw.2.1.2 t ht).2.1.1,(hw.2.1.2 t ht).2.2.1⟩)
  unfold laws_FnExactCheckSound.f
  refine Evt.bind hr ?_
  by_cases c:r<0
  · exact Evt.pos c (Evt.ok _)
  have hs:SmallN (l.map toT):=(gr (by omega)).2
  obtain ⟨⟨vc,vl,g0,vt,b0⟩,hx,hy,hg⟩:=core_CheckSound p (l.map toT) u v x1 hs
  have hg0' : g0.length≤60:=hg
  have hg0:Short g0:=by show g0.length≤_;omega
  obtain ⟨m,hm,hm'⟩:=markFlow_ev p (l.map toT) u v hs 1 (by omega)
  have eqv:Evt (fun k=>laws_eqVerdict.f k vc vl g0 vt vc vl g0 vt) true:=by
    unfold laws_eqVerdict.f
    exact Evt.pos rfl (Evt.pos rfl (Evt.bind (eqIntS_same g0 hg0) (Evt.pos rfl (Evt.pos rfl (Evt.ok _)))))
  have mkv:Evt (fun k=>laws_markVerdict.f k vc vl g0 vt 1) (((1+g0.length:Nat):Int),iota 1 g0.length):=by
    unfold laws_markVerdict.f
    exact Evt.bind (markIntS_ev g0 1 (by omega)) (Evt.ok _)
  have hdv:Evt (fun k=>laws_heldVerdict.f k vc vl (iota 1 g0.length) vt 1) ((1+g0.length:Nat):Int):=by
    unfold laws_heldVerdict.f
    exact Evt.bind (heldIntS_ev 1 g0.length (by omega)) (Evt.neg (by omega) (Evt.ok _))
  have tf:=toFlow_ev p l u v hs
  refine Evt.neg c (Evt.bind tf (Evt.bind hx (Evt.bind tf (Evt.bind hy (Evt.bind eqv (Evt.pos rfl (Evt.neg (by simp) ?_)))))))
  refine Evt.bind tf (Evt.bind (eqFlow_same p _ u v hs) (Evt.pos rfl (Evt.bind hm (Evt.neg (by omega) (Evt.bind eqv (Evt.pos rfl (Evt.bind mkv ?_)))))))
  refine Evt.bind hdv (Evt.neg (by omega) (Evt.pos rfl (Evt.bind tf (Evt.bind hy (Evt.bind eqv (Evt.pos rfl (Evt.neg (by simp) ?_)))))))
  exact Evt.bind hdv (Evt.neg (by omega) (Evt.pos rfl (Evt.ok _)))
end Go.Proofs.Ytiglhdibibbkjaa.Pure
