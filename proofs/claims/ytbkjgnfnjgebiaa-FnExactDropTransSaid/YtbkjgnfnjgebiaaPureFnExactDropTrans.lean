import Derived.Test.YtbkjgnfnjgebiaaF1
import Derived.Test.YtbkjgnfnjgebiaaF4
import Derived.Test.YtbkjgnfnjgebiaaDropTrans
import Derived.Test.YtbkjgnfnjgebiaaNetKeep
import Derived.Test.YtbkjgnfnjgebiaaFlow
namespace Go.Proofs.Ytbkjgnfnjgebiaa.Pure
open Go.RowKit Go.Proofs.Ytbkjgnfnjgebiaa.F Go.Proofs.Ytbkjgnfnjgebiaa.Lib Go.Proofs.YtbkjgnfnjgebiaaW.PrintWords Go.Proofs.YtbkjgnfnjgebiaaW.PrintLast
theorem FnExactDropTrans : laws_FnExactDropTrans.Pure := by
  intro p l u v hw
  refine Evt.get ?_
  obtain ⟨r, hr, gr⟩ := szFlow_ex p l u v 1048576 (by omega) (by omega) hw.2.1.1 (fun t ht => ⟨(hw.2.1.2 t ht).1.1, (hw.2.1.2 t ht).2.1.1, (hw.2.1.2 t ht).2.2.1⟩)
  unfold laws_FnExactDropTrans.f
  refine Evt.bind hr ?_
  by_cases c : r < 0
  · exact Evt.pos c (Evt.ok _)
  have hs : SmallN (l.map toT) := (gr (by omega)).2
  obtain ⟨⟨q, g0, a0, d0, b0⟩, hx, hy, hg0⟩ := core_DropTrans p (l.map toT) u v hs
  obtain ⟨m, R, hm, _⟩ := markNet_ex p (l.map toT) hs
  obtain ⟨n, Q, hn, hh⟩ := markNet_ex q g0 hg0
  have hm' : Evt (fun k => laws_markFlow.f k p (l.map toT) u v 1) ((m : Int), R) := hm
  have hn' : Evt (fun k => laws_markFlow.f k q g0 a0 d0 1) ((n : Int), Q) := hn
  have hh' : Evt (fun k => laws_heldFlow.f k q Q a0 d0 1) (n : Int) := by
    unfold laws_heldFlow.f
    exact Evt.bind hh (Evt.neg (by omega) (Evt.ok _))
  have hf := toFlow_ev p l u v hs
  have he := eqFlow_same q g0 a0 d0 hg0
  refine Evt.neg c (Evt.bind hf (Evt.bind hx (Evt.bind hf (Evt.bind hy (Evt.bind he (Evt.pos rfl (Evt.neg (by simp) (Evt.bind hf (Evt.bind (eqFlow_same p _ u v hs) (Evt.pos rfl ?_))))))))))
  refine Evt.bind hm' (Evt.neg (by show ¬ ((m : Int) < 0); omega) (Evt.bind he (Evt.pos rfl (Evt.bind hn' (Evt.bind hh' (Evt.neg (by omega) (Evt.pos rfl ?_)))))))
  exact Evt.bind hf (Evt.bind hy (Evt.bind he (Evt.pos rfl (Evt.neg (by simp) (Evt.bind hh' (Evt.neg (by omega) (Evt.pos rfl (Evt.ok _))))))))
end Go.Proofs.Ytbkjgnfnjgebiaa.Pure
