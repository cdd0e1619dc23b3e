/- The plain statement on EndOf: what the program returns is what the reference returns. -/
import Derived.Test.YtaadkpbpkeckdaaF8
import Derived.Test.YtaadkpbpkeckdaaEnds
import Derived.Test.YtaadkpbpkeckdaaFlowMark
namespace Go.Proofs.Ytaadkpbpkeckdaa.Pure
open Go.RowKit Go.Proofs.Ytaadkpbpkeckdaa.F Go.Proofs.Ytaadkpbpkeckdaa.Lib Go.Proofs.YtaadkpbpkeckdaaW.PrintWords Go.Proofs.YtaadkpbpkeckdaaW.PrintLast
theorem FnExactEndOf : laws_FnExactEndOf.Pure := by
  intro p l u v hw
  refine Evt.get ?_
  obtain ⟨r, hr, gr⟩ := szFlow_ex p l u v 1048576 (by omega) (by omega) hw.2.1.1 (fun t ht => ⟨(hw.2.1.2 t ht).1.1, (hw.2.1.2 t ht).2.1.1, (hw.2.1.2 t ht).2.2.1⟩)
  unfold laws_FnExactEndOf.f
  refine Evt.bind hr ?_
  by_cases c : r < 0
  · exact Evt.pos c (Evt.ok _)
  have hs : SmallN (l.map toT) := (gr (by omega)).2
  obtain ⟨⟨g0, b0⟩, hx, hy, hg0⟩ := core_EndOf p (l.map toT) u v hs
  have hg0' : g0.length ≤ 17592186044415 := hg0
  obtain ⟨m, hm, hm'⟩ := markFlow_ev p (l.map toT) u v hs 1 (by omega)
  refine Evt.neg c (Evt.bind (toFlow_ev p l u v hs) (Evt.bind hx (Evt.bind (toFlow_ev p l u v hs) (Evt.bind hy (Evt.bind (eqIntS_same g0 hg0) (Evt.pos rfl (Evt.neg (by simp) (?_))))))))
  refine Evt.bind (toFlow_ev p l u v hs) (Evt.bind (eqFlow_same p _ u v hs) (Evt.pos rfl (Evt.bind hm (Evt.neg (by omega) (Evt.bind (eqIntS_same g0 hg0) (Evt.pos rfl (Evt.bind (markIntS_ev g0 (1) (by omega)) (?_))))))))
  refine Evt.bind (heldIntS_ev (1) g0.length (by omega)) (Evt.neg (by omega) (Evt.pos rfl (Evt.bind (toFlow_ev p l u v hs) (Evt.bind hy (Evt.bind (eqIntS_same g0 hg0) (Evt.pos rfl (Evt.neg (by simp) (?_))))))))
  exact Evt.bind (heldIntS_ev (1) g0.length (by omega)) (Evt.neg (by omega) (Evt.pos rfl (Evt.ok _)))
end Go.Proofs.Ytaadkpbpkeckdaa.Pure
