/- The plain statement on IsInvariant: what the program returns is what the reference returns. -/
import Derived.Test.YtffdacmdgfpnmaaF13
import Derived.Test.YtffdacmdgfpnmaaF14
import Derived.Test.YtffdacmdgfpnmaaSum
namespace Go.Proofs.Ytffdacmdgfpnmaa.Pure
open Go.RowKit Go.Proofs.Ytffdacmdgfpnmaa.F Go.Proofs.Ytffdacmdgfpnmaa.Lib Go.Proofs.YtffdacmdgfpnmaaW.PrintWords Go.Proofs.YtffdacmdgfpnmaaW.PrintLast
theorem FnExactIsInvariant : laws_FnExactIsInvariant.Pure := by
  intro p l l1 hw _
  refine Evt.get ?_
  obtain ⟨r, hr, g⟩ := szNet_ex p l 1048576 (by omega) (by omega) hw.2.1 (fun t ht => ⟨(hw.2.2 t ht).1.1, (hw.2.2 t ht).2.1.1, (hw.2.2 t ht).2.2.1⟩)
  unfold laws_FnExactIsInvariant.f
  by_cases hb1 : (l1.length : Int) > 1048576
  · exact Evt.pos hb1 (Evt.ok _)
  have h1 : Short l1 := by show l1.length ≤ _; omega
  refine Evt.neg hb1 (Evt.bind hr ?_)
  by_cases c : r < 0
  · exact Evt.pos c (Evt.ok _)
  have hs : SmallN (l.map toT) := (g (by omega)).2
  have hb : ∃ x, Evt (fun k => spec_IsInvariant.f k p (l.map toT) l1) x ∧ Evt (fun k => impl_IsInvariant.f k p (l.map toT) l1) x := by
    unfold spec_IsInvariant.f impl_IsInvariant.f
    cases hg : weights p (l.map toT) l1 with
    | false => exact ⟨_, Evt.bind ((l7Weights_ev p _ l1 hs h1).cast hg) (Evt.neg (by decide) (Evt.ok _)), Evt.bind ((areWeights_ev p _ l1 hs h1).cast hg) (Evt.neg (by decide) (Evt.ok _))⟩
    | true =>
      have hf := weights_facts hg
      exact ⟨_, Evt.bind ((l7Weights_ev p _ l1 hs h1).cast hg) (Evt.pos rfl (Evt.bind (l7Invariant_ev p _ l1 hs hf.1 hf.2.1) (Evt.ok _))), Evt.bind ((areWeights_ev p _ l1 hs h1).cast hg) (Evt.pos rfl (invLoop_ev p _ l1 hs hf.1 hf.2.1))⟩
  obtain ⟨⟨x1, x2⟩, hx, hy⟩ := hb
  refine Evt.neg c (Evt.bind (toNet_ev p l hs) (Evt.bind (toIntS_ev l1 h1) (Evt.bind hx (Evt.bind (toNet_ev p l hs) (Evt.bind (toIntS_ev l1 h1) (Evt.bind hy ?_))))))
  refine Evt.neg (by simp) (Evt.step ?_)
  simp only [laws_FnExactIsInvariant.j0]
  exact Evt.neg (by simp) (Evt.bind (toNet_ev p l hs) (Evt.bind (eqNet_same p _ hs) (Evt.pos rfl (Evt.bind (toIntS_ev l1 h1) (Evt.bind (eqIntS_same l1 h1) (Evt.pos rfl (Evt.ok _)))))))
end Go.Proofs.Ytffdacmdgfpnmaa.Pure
