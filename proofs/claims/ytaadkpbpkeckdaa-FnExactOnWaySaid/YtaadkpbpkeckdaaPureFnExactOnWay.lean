/- The plain statement on OnWay: what the program returns is what the reference returns. -/
import Derived.Test.YtaadkpbpkeckdaaF19
import Derived.Test.YtaadkpbpkeckdaaOnWay
import Derived.Test.YtaadkpbpkeckdaaNetMark
namespace Go.Proofs.Ytaadkpbpkeckdaa.Pure
open Go.RowKit Go.Proofs.Ytaadkpbpkeckdaa.F Go.Proofs.Ytaadkpbpkeckdaa.Lib Go.Proofs.YtaadkpbpkeckdaaW.PrintWords Go.Proofs.YtaadkpbpkeckdaaW.PrintLast
theorem FnExactOnWay : laws_FnExactOnWay.Pure := by
  intro p l x1 x2 hw _ _
  refine Evt.get ?_
  obtain ⟨r, hr, gr⟩ := szNet_ex p l 1048576 (by omega) (by omega) hw.2.1 (fun t ht => ⟨(hw.2.2 t ht).1.1, (hw.2.2 t ht).2.1.1, (hw.2.2 t ht).2.2.1⟩)
  unfold laws_FnExactOnWay.f
  refine Evt.bind hr ?_
  by_cases c : r < 0
  · exact Evt.pos c (Evt.ok _)
  have hs : SmallN (l.map toT) := (gr (by omega)).2
  obtain ⟨⟨g0, g1, b0⟩, hx, hy, hg0, hg1⟩ := core_OnWay p (l.map toT) x1 x2 hs
  have hg0' : g0.length ≤ 17592186044415 := hg0
  have hg1' : g1.length ≤ 17592186044415 := hg1
  obtain ⟨m, hm, hm'⟩ := markNet_ev p (l.map toT) hs 1 (by omega)
  refine Evt.neg c (Evt.bind (toNet_ev p l hs) (Evt.bind hx (Evt.bind (toNet_ev p l hs) (Evt.bind hy (Evt.bind (eqIntS_same g0 hg0) (Evt.pos rfl (Evt.bind (eqIntS_same g1 hg1) (?_))))))))
  refine Evt.pos rfl (Evt.neg (by simp) (Evt.bind (toNet_ev p l hs) (Evt.bind (eqNet_same p _ hs) (Evt.pos rfl (Evt.bind hm (Evt.neg (by omega) (Evt.bind (eqIntS_same g0 hg0) (?_))))))))
  refine Evt.pos rfl (Evt.bind (eqIntS_same g1 hg1) (Evt.pos rfl (Evt.bind (markIntS_ev g0 (1) (by omega)) (Evt.bind (markIntS_ev g1 (1 + g0.length) (by omega)) (Evt.bind (heldIntS_ev (1) g0.length (by omega)) (Evt.neg (by omega) (Evt.bind (heldIntS_ev (1 + g0.length) g1.length (by omega)) (?_))))))))
  refine Evt.neg (by omega) (Evt.pos rfl (Evt.bind (toNet_ev p l hs) (Evt.bind hy (Evt.bind (eqIntS_same g0 hg0) (Evt.pos rfl (Evt.bind (eqIntS_same g1 hg1) (Evt.pos rfl (?_))))))))
  exact Evt.neg (by simp) (Evt.bind (heldIntS_ev (1) g0.length (by omega)) (Evt.neg (by omega) (Evt.bind (heldIntS_ev (1 + g0.length) g1.length (by omega)) (Evt.neg (by omega) (Evt.pos rfl (Evt.ok _))))))
end Go.Proofs.Ytaadkpbpkeckdaa.Pure
