import Derived.Test.YtbkjgnfnjgebiaaF4
import Derived.Test.YtbkjgnfnjgebiaaTurnCore
import Derived.Test.YtbkjgnfnjgebiaaNetKeep
namespace Go.Proofs.Ytbkjgnfnjgebiaa.Pure
open Go.RowKit Go.Proofs.Ytbkjgnfnjgebiaa.F Go.Proofs.Ytbkjgnfnjgebiaa.Lib Go.Proofs.YtbkjgnfnjgebiaaW.PrintWords Go.Proofs.YtbkjgnfnjgebiaaW.PrintLast
theorem FnExactTurnNet : laws_FnExactTurnNet.Pure := by
  intro p l hw
  refine Evt.get ?_
  obtain ⟨r, hr, gr⟩ := szNet_ex p l 1048576 (by omega) (by omega) hw.2.1 (fun t ht => ⟨(hw.2.2 t ht).1.1, (hw.2.2 t ht).2.1.1, (hw.2.2 t ht).2.2.1⟩)
  unfold laws_FnExactTurnNet.f
  refine Evt.bind hr ?_
  by_cases c : r < 0
  · exact Evt.pos c (Evt.ok _)
  have hs : SmallN (l.map toT) := (gr (by omega)).2
  obtain ⟨⟨q, g0, b0⟩, hx, hy, hg0⟩ := core_TurnNet p (l.map toT) hs
  obtain ⟨m, R, hm, _⟩ := markNet_ex p (l.map toT) hs
  obtain ⟨n, Q, hn, hh⟩ := markNet_ex q g0 hg0
  have hf := toNet_ev p l hs
  have he := eqNet_same q g0 hg0
  refine Evt.neg c (Evt.bind hf (Evt.bind hx (Evt.bind hf (Evt.bind hy (Evt.bind he (Evt.pos rfl (Evt.neg (by simp) (Evt.bind hf (Evt.bind (eqNet_same p _ hs) (Evt.pos rfl ?_))))))))))
  refine Evt.bind hm (Evt.neg (by show ¬ ((m : Int) < 0); omega) (Evt.bind he (Evt.pos rfl (Evt.bind hn (Evt.bind hh (Evt.neg (by omega) (Evt.pos rfl ?_)))))))
  exact Evt.bind hf (Evt.bind hy (Evt.bind he (Evt.pos rfl (Evt.neg (by simp) (Evt.bind hh (Evt.neg (by omega) (Evt.pos rfl (Evt.ok _))))))))
end Go.Proofs.Ytbkjgnfnjgebiaa.Pure
