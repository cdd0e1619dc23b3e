import Derived.Test.YthkmdanahoongaaF5
import Derived.Test.YthkmdanahoongaaIsHome
import Derived.Test.YthkmdanahoongaaNet
namespace Go.Proofs.Ythkmdanahoongaa.Pure
open Go.RowKit Go.Proofs.Ythkmdanahoongaa.F Go.Proofs.Ythkmdanahoongaa.Lib Go.Proofs.YthkmdanahoongaaW.PrintWords Go.Proofs.YthkmdanahoongaaW.PrintLast
theorem FnExactIsHome : laws_FnExactIsHome.Pure := by
  intro p l x1 x2 x3 hw _ _ _
  refine Evt.get ?_
  obtain ⟨r, hr, gr⟩ := szNet_ex p l 1048576 (by omega) (by omega) hw.2.1 (fun t ht => ⟨(hw.2.2 t ht).1.1, (hw.2.2 t ht).2.1.1, (hw.2.2 t ht).2.2.1⟩)
  unfold laws_FnExactIsHome.f
  by_cases hb1 : (x1.length : Int) > 1048576
  · exact Evt.pos hb1 (Evt.ok _)
  by_cases hb2 : (x3.length : Int) > 1048576
  · exact Evt.neg hb1 (Evt.pos hb2 (Evt.ok _))
  have h1 : Short x1 := by show x1.length ≤ _; omega
  have h3 : Short x3 := by show x3.length ≤ _; omega
  refine Evt.neg hb1 (Evt.neg hb2 (Evt.bind hr ?_))
  by_cases c : r < 0
  · exact Evt.pos c (Evt.ok _)
  have hs : SmallN (l.map toT) := (gr (by omega)).2
  obtain ⟨⟨b0, b1⟩, hx, hy⟩ := core_IsHome p (l.map toT) x1 x2 x3 hs h1 h3
  refine Evt.neg c (Evt.bind (toNet_ev p l hs) (Evt.bind (toIntS_ev x1 h1) (Evt.bind (toIntS_ev x3 h3) (Evt.bind hx (Evt.bind (toNet_ev p l hs) (Evt.bind (toIntS_ev x1 h1) (Evt.bind (toIntS_ev x3 h3) (?_))))))))
  refine Evt.bind hy (Evt.neg (by simp) (Evt.neg (by simp) (Evt.bind (toNet_ev p l hs) (Evt.bind (eqNet_same p _ hs) (Evt.pos rfl (Evt.bind (toIntS_ev x1 h1) (Evt.bind (eqIntS_same x1 h1) (?_))))))))
  exact Evt.pos rfl (Evt.bind (toIntS_ev x3 h3) (Evt.bind (eqIntS_same x3 h3) (Evt.pos rfl (Evt.ok _))))
end Go.Proofs.Ythkmdanahoongaa.Pure
