import Derived.Test.YthkmdanahoongaaF9
import Derived.Test.YthkmdanahoongaaUnlimited
import Derived.Test.YthkmdanahoongaaNetMark
namespace Go.Proofs.Ythkmdanahoongaa.Pure
open Go.RowKit Go.Proofs.Ythkmdanahoongaa.F Go.Proofs.Ythkmdanahoongaa.Lib Go.Proofs.YthkmdanahoongaaW.PrintWords Go.Proofs.YthkmdanahoongaaW.PrintLast
theorem FnExactUnlimited : laws_FnExactUnlimited.Pure := by
  intro p l x1 x2 hw _ _
  refine Evt.get ?_
  obtain ⟨r, hr, gr⟩ := szNet_ex p l 1048576 (by omega) (by omega) hw.2.1 (fun t ht => ⟨(hw.2.2 t ht).1.1, (hw.2.2 t ht).2.1.1, (hw.2.2 t ht).2.2.1⟩)
  unfold laws_FnExactUnlimited.f
  by_cases hb1 : (x1.length : Int) > 1048576
  · exact Evt.pos hb1 (Evt.ok _)
  have h1 : Short x1 := by show x1.length ≤ _; omega
  refine Evt.neg hb1 (Evt.bind hr ?_)
  by_cases c : r < 0
  · exact Evt.pos c (Evt.ok _)
  have hs : SmallN (l.map toT) := (gr (by omega)).2
  obtain ⟨⟨g0, b0⟩, hx, hy, hg0⟩ := core_Unlimited p (l.map toT) x1 x2 hs h1
  have hg0' : g0.length ≤ 17592186044415 := hg0
  obtain ⟨m, hm, hm'⟩ := markNet_ev p (l.map toT) hs 1 (by omega)
  refine Evt.neg c (Evt.bind (toNet_ev p l hs) (Evt.bind (toIntS_ev x1 h1) (Evt.bind hx (Evt.bind (toNet_ev p l hs) (Evt.bind (toIntS_ev x1 h1) (Evt.bind hy (Evt.bind (eqIntS_same g0 hg0) (?_))))))))
  refine Evt.pos rfl (Evt.neg (by simp) (Evt.bind (toNet_ev p l hs) (Evt.bind (eqNet_same p _ hs) (Evt.pos rfl (Evt.bind (toIntS_ev x1 h1) (Evt.bind (eqIntS_same x1 h1) (Evt.pos rfl (?_))))))))
  refine Evt.bind hm (Evt.bind (markIntS_ev x1 (m) (by omega)) (Evt.neg (by omega) (Evt.bind (eqIntS_same g0 hg0) (Evt.pos rfl (Evt.bind (markIntS_ev g0 (1) (by omega)) (Evt.bind (heldIntS_ev (1) g0.length (by omega)) (Evt.neg (by omega) (?_))))))))
  refine Evt.pos rfl (Evt.bind (toNet_ev p l hs) (Evt.bind (toIntS_ev x1 h1) (Evt.bind hy (Evt.bind (eqIntS_same g0 hg0) (Evt.pos rfl (Evt.neg (by simp) (Evt.bind (heldIntS_ev (1) g0.length (by omega)) (?_))))))))
  exact Evt.neg (by omega) (Evt.pos rfl (Evt.ok _))
end Go.Proofs.Ythkmdanahoongaa.Pure
