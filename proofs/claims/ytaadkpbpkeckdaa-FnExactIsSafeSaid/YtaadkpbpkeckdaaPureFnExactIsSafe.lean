import Derived.Test.YtaadkpbpkeckdaaF9
import Derived.Test.YtaadkpbpkeckdaaSafe
import Derived.Test.YtaadkpbpkeckdaaFlow
namespace Go.Proofs.Ytaadkpbpkeckdaa.Pure
open Go.RowKit Go.Proofs.Ytaadkpbpkeckdaa.F Go.Proofs.Ytaadkpbpkeckdaa.Lib Go.Proofs.YtaadkpbpkeckdaaW.PrintWords Go.Proofs.YtaadkpbpkeckdaaW.PrintLast
theorem FnExactIsSafe : laws_FnExactIsSafe.Pure := by
  intro p l u v x1 hw _
  refine Evt.get ?_
  obtain ⟨r, hr, gr⟩ := szFlow_ex p l u v 1048576 (by omega) (by omega) hw.2.1.1 (fun t ht => ⟨(hw.2.1.2 t ht).1.1, (hw.2.1.2 t ht).2.1.1, (hw.2.1.2 t ht).2.2.1⟩)
  unfold laws_FnExactIsSafe.f
  refine Evt.bind hr ?_
  by_cases c : r < 0
  · exact Evt.pos c (Evt.ok _)
  have hs : SmallN (l.map toT) := (gr (by omega)).2
  obtain ⟨⟨b0, b1⟩, hx, hy⟩ := core_IsSafe p (l.map toT) u v x1 hs
  refine Evt.neg c (Evt.bind (toFlow_ev p l u v hs) (Evt.bind hx (Evt.bind (toFlow_ev p l u v hs) (Evt.bind hy (Evt.neg (by simp) (Evt.neg (by simp) (Evt.bind (toFlow_ev p l u v hs) (?_))))))))
  exact Evt.bind (eqFlow_same p _ u v hs) (Evt.pos rfl (Evt.ok _))
end Go.Proofs.Ytaadkpbpkeckdaa.Pure
