import Derived.Test.YtaadkpbpkeckdaaF3
import Derived.Test.YtaadkpbpkeckdaaIsKept
import Derived.Test.YtaadkpbpkeckdaaNet
namespace Go.Proofs.Ytaadkpbpkeckdaa.Pure
open Go.RowKit Go.Proofs.Ytaadkpbpkeckdaa.F Go.Proofs.Ytaadkpbpkeckdaa.Lib Go.Proofs.YtaadkpbpkeckdaaW.PrintWords Go.Proofs.YtaadkpbpkeckdaaW.PrintLast
theorem FnExactIsKept : laws_FnExactIsKept.Pure := by
  intro p l hw
  refine Evt.get ?_
  obtain ⟨r, hr, gr⟩ := szNet_ex p l 1048576 (by omega) (by omega) hw.2.1 (fun t ht => ⟨(hw.2.2 t ht).1.1, (hw.2.2 t ht).2.1.1, (hw.2.2 t ht).2.2.1⟩)
  unfold laws_FnExactIsKept.f
  refine Evt.bind hr ?_
  by_cases c : r < 0
  · exact Evt.pos c (Evt.ok _)
  have hs : SmallN (l.map toT) := (gr (by omega)).2
  obtain ⟨⟨b0, b1⟩, hx, hy⟩ := core_IsKept p (l.map toT) hs
  refine Evt.neg c (Evt.bind (toNet_ev p l hs) (Evt.bind hx (Evt.bind (toNet_ev p l hs) (Evt.bind hy (Evt.neg (by simp) (Evt.neg (by simp) (Evt.bind (toNet_ev p l hs) (?_))))))))
  exact Evt.bind (eqNet_same p _ hs) (Evt.pos rfl (Evt.ok _))
end Go.Proofs.Ytaadkpbpkeckdaa.Pure
