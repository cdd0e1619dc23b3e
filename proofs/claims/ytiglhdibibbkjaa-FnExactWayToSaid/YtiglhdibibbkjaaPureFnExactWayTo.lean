import Derived.Test.YtiglhdibibbkjaaF16
import Derived.Test.YtiglhdibibbkjaaWayTo
import Derived.Test.YtiglhdibibbkjaaNetMark
namespace Go.Proofs.Ytiglhdibibbkjaa.Pure
open Go.RowKit Go.Proofs.Ytiglhdibibbkjaa.F Go.Proofs.Ytiglhdibibbkjaa.Lib Go.Proofs.YtiglhdibibbkjaaW.PrintWords Go.Proofs.YtiglhdibibbkjaaW.PrintLast
theorem FnExactWayTo : laws_FnExactWayTo.Pure := by
  intro p l x1 x2 x3 hw _ _ _
  refine Evt.get ?_
  obtain ⟨r, hr, gr⟩ := szNet_ex p l 1048576 (by omega) (by omega) hw.2.1 (fun t ht => ⟨(hw.2.2 t ht).1.1, (hw.2.2 t ht).2.1.1, (hw.2.2 t ht).2.2.1⟩)
  unfold laws_FnExactWayTo.f
  by_cases hb1 : (x1.length : Int) > 1048576
  · exact Evt.pos hb1 (Evt.ok _)
  by_cases hb2 : (x3.length : Int) > 1048576
  · exact Evt.neg hb1 (Evt.pos hb2 (Evt.ok _))
  have h1 : Short x1 := by show x1.length ≤ _; omega
  have h3 : Short x3 := by show x3.length ≤ _; omega
  refine Evt.neg hb1 (Evt.neg hb2 (Evt.bind hr ?_))
  by_cases c : r < 0
  · exact Evt.pos c (Evt.ok _)
  have hs : SmallN (l.map toT) := (gr (by omega)).2
  obtain ⟨⟨g0, b0⟩, hx, hy, hg0⟩ := core_WayTo p (l.map toT) x1 x2 x3 hs h1 h3
  have hg0' : g0.length ≤ 17592186044415 := hg0
  obtain ⟨m, hm, hm'⟩ := markNet_ev p (l.map toT) hs 1 (by omega)
  refine Evt.neg c (Evt.bind (toNet_ev p l hs) (Evt.bind (toIntS_ev x1 h1) (Evt.bind (toIntS_ev x3 h3) (Evt.bind hx (Evt.bind (toNet_ev p l hs) (Evt.bind (toIntS_ev x1 h1) (Evt.bind (toIntS_ev x3 h3) (?_))))))))
  refine Evt.bind hy (Evt.bind (eqIntS_same g0 hg0) (Evt.pos rfl (Evt.neg (by simp) (Evt.bind (toNet_ev p l hs) (Evt.bind (eqNet_same p _ hs) (Evt.pos rfl (Evt.bind (toIntS_ev x1 h1) (?_))))))))
  refine Evt.bind (eqIntS_same x1 h1) (Evt.pos rfl (Evt.bind (toIntS_ev x3 h3) (Evt.bind (eqIntS_same x3 h3) (Evt.pos rfl (Evt.bind hm (Evt.bind (markIntS_ev x1 (m) (by omega)) (Evt.bind (markIntS_ev x3 (m + x1.length) (by omega)) (?_))))))))
  refine Evt.neg (by omega) (Evt.bind (eqIntS_same g0 hg0) (Evt.pos rfl (Evt.bind (markIntS_ev g0 (1) (by omega)) (Evt.bind (heldIntS_ev (1) g0.length (by omega)) (Evt.neg (by omega) (Evt.pos rfl (Evt.bind (toNet_ev p l hs) (?_))))))))
  refine Evt.bind (toIntS_ev x1 h1) (Evt.bind (toIntS_ev x3 h3) (Evt.bind hy (Evt.bind (eqIntS_same g0 hg0) (Evt.pos rfl (Evt.neg (by simp) (Evt.bind (heldIntS_ev (1) g0.length (by omega)) (Evt.neg (by omega) (?_))))))))
  exact Evt.pos rfl (Evt.ok _)
end Go.Proofs.Ytiglhdibibbkjaa.Pure
