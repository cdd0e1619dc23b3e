import Derived.Test.YtbkjgnfnjgebiaaF7
import Derived.Test.YtbkjgnfnjgebiaaCertCore
import Derived.Test.YtbkjgnfnjgebiaaCertSz
import Derived.Test.YtbkjgnfnjgebiaaFlow
namespace Go.Proofs.Ytbkjgnfnjgebiaa.Pure
open Go.RowKit Go.Proofs.Ytbkjgnfnjgebiaa.F Go.Proofs.Ytbkjgnfnjgebiaa.Lib Go.Proofs.YtbkjgnfnjgebiaaW.PrintWords Go.Proofs.YtbkjgnfnjgebiaaW.PrintLast
theorem FnExactCheckCert:laws_FnExactCheckCert.Pure:=by
  intro p l u v M S R hw hz
  refine Evt.get ?_
  obtain ⟨r,hr,gr⟩:=szFlow_ex p l u v 1048576 (by omega) (by omega) hw.2.1.1 (fun t ht=>⟨(hw.2.1.2 t ht).1.1,(hw.2.1.2 t ht).2.1.1,(hw.2.1.2 t ht).2.2.1⟩)
  unfold laws_FnExactCheckCert.f
  refine Evt.bind hr ?_
  by_cases c:r<0
  · exact Evt.pos c (Evt.ok _)
  have hg:=gr (by omega)
  have hs:SmallN (l.map toT):=hg.2
  obtain ⟨s,hs1,hs2⟩:=szCert_ex M S R r (by omega) hg.1 hz.1.1 (fun y hy=>(hz.1.2 y hy).1) hz.2.1.1 hz.2.2.1
  refine Evt.neg c (Evt.bind hs1 ?_)
  by_cases c2:s<0
  · exact Evt.pos c2 (Evt.ok _)
  have hc:=hs2 (by omega)
  obtain ⟨⟨x,b⟩,hx,hy⟩:=core_CheckCert p (l.map toT) u v M S R hs (by have:=hc.marks;show M.length≤_;omega) hc.short hc.shortS hc.shortR
  have tf:=toFlow_ev p l u v hs
  have tc:=toCert_ev M S R hc
  exact Evt.neg c2 (Evt.bind tf (Evt.bind tc (Evt.bind hx (Evt.bind tf (Evt.bind tc (Evt.bind hy (Evt.pos rfl (Evt.neg (by simp) (Evt.bind tf (Evt.bind (eqFlow_same p _ u v hs) (Evt.pos rfl (Evt.bind tc (Evt.bind (eqCert_same M S R hc) (Evt.pos rfl (Evt.ok _)))))))))))))))
end Go.Proofs.Ytbkjgnfnjgebiaa.Pure
