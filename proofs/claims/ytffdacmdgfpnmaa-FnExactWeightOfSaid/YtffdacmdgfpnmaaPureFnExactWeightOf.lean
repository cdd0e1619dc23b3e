/- The plain statement on WeightOf: what the program returns is what the reference returns. -/
import Derived.Test.YtffdacmdgfpnmaaF19
import Derived.Test.YtffdacmdgfpnmaaF20
import Derived.Test.YtffdacmdgfpnmaaDot
namespace Go.Proofs.Ytffdacmdgfpnmaa.Pure
open Go.RowKit Go.Proofs.Ytffdacmdgfpnmaa.F Go.Proofs.Ytffdacmdgfpnmaa.Lib Go.Proofs.YtffdacmdgfpnmaaW.PrintWords Go.Proofs.YtffdacmdgfpnmaaW.PrintLast
theorem FnExactWeightOf : laws_FnExactWeightOf.Pure := by
  intro p l l1 l2 hw _ _
  refine Evt.get ?_
  obtain ⟨r, hr, g⟩ := szNet_ex p l 1048576 (by omega) (by omega) hw.2.1 (fun t ht => ⟨(hw.2.2 t ht).1.1, (hw.2.2 t ht).2.1.1, (hw.2.2 t ht).2.2.1⟩)
  unfold laws_FnExactWeightOf.f
  by_cases hb1 : (l1.length : Int) > 1048576
  · exact Evt.pos hb1 (Evt.ok _)
  by_cases hb2 : (l2.length : Int) > 1048576
  · exact Evt.neg hb1 (Evt.pos hb2 (Evt.ok _))
  have h1 : Short l1 := by show l1.length ≤ _; omega
  have h2 : Short l2 := by show l2.length ≤ _; omega
  refine Evt.neg hb1 (Evt.neg hb2 (Evt.bind hr ?_))
  by_cases c : r < 0
  · exact Evt.pos c (Evt.ok _)
  have hs : SmallN (l.map toT) := (g (by omega)).2
  have hb : ∃ x, Evt (fun k => spec_WeightOf.f k p (l.map toT) l1 l2) x ∧ Evt (fun k => impl_WeightOf.f k p (l.map toT) l1 l2) x := by
    unfold spec_WeightOf.f impl_WeightOf.f
    cases hg : weights p (l.map toT) l1 with
    | false =>
      refine ⟨(0, false), Evt.bind ((l7Weights_ev p _ l1 hs h1).cast hg) (Evt.neg (by decide) (Evt.step ?_)), Evt.bind ((areWeights_ev p _ l1 hs h1).cast hg) (Evt.neg (by decide) (Evt.step ?_))⟩
      · simp only [spec_WeightOf.j0]; exact Evt.pos (by trivial) (Evt.ok _)
      · simp only [impl_WeightOf.j0]; exact Evt.pos (by trivial) (Evt.ok _)
    | true =>
      cases hm : goodMark p l2 with
      | false =>
        refine ⟨(0, false), Evt.bind ((l7Weights_ev p _ l1 hs h1).cast hg) (Evt.pos rfl (Evt.bind ((specGoodMark_ev p l2 h2).cast hm) (Evt.step ?_))), Evt.bind ((areWeights_ev p _ l1 hs h1).cast hg) (Evt.pos rfl (Evt.bind ((goodMark_ev p l2 h2).cast hm) (Evt.step ?_)))⟩
        · simp only [spec_WeightOf.j0]; exact Evt.pos (by trivial) (Evt.ok _)
        · simp only [impl_WeightOf.j0]; exact Evt.pos (by trivial) (Evt.ok _)
      | true =>
        have hf := weights_facts hg
        have hl := (goodMark_bounds hm).2.2.1
        have e : l1.length = l2.length := by omega
        have h1' : l1.length ≤ 17592186044415 := h1
        refine ⟨(dotFrom l1 l2 l2.length 0 0, true), Evt.bind ((l7Weights_ev p _ l1 hs h1).cast hg) (Evt.pos rfl (Evt.bind ((specGoodMark_ev p l2 h2).cast hm) (Evt.step ?_))), Evt.bind ((areWeights_ev p _ l1 hs h1).cast hg) (Evt.pos rfl (Evt.bind ((goodMark_ev p l2 h2).cast hm) (Evt.step ?_)))⟩
        · simp only [spec_WeightOf.j0]; exact Evt.neg (by simp) (specDot_ev l1 l2 h2 (by omega))
        · simp only [impl_WeightOf.j0]
          refine Evt.neg (by simp) (Evt.bind (combined_ev l1 l2 h1' (by omega)) (Evt.bind (sumOf_ev (prods l1 l2) (by show (prods l1 l2).length ≤ _; simp only [prods, List.length_map, List.length_range]; exact h1')) ((Evt.ok _).cast ?_)))
          rw [← dot_eq, ← e]; simp only [prods, List.range_eq_range']
  obtain ⟨⟨x1, x2⟩, hx, hy⟩ := hb
  refine Evt.neg c (Evt.bind (toNet_ev p l hs) (Evt.bind (toIntS_ev l1 h1) (Evt.bind (toIntS_ev l2 h2) (Evt.bind hx (Evt.bind (toNet_ev p l hs) (Evt.bind (toIntS_ev l1 h1) (Evt.bind (toIntS_ev l2 h2) (Evt.bind hy ?_))))))))
  refine Evt.pos rfl (Evt.step ?_)
  simp only [laws_FnExactWeightOf.j0]
  exact Evt.neg (by simp) (Evt.bind (toNet_ev p l hs) (Evt.bind (eqNet_same p _ hs) (Evt.pos rfl (Evt.bind (toIntS_ev l1 h1) (Evt.bind (eqIntS_same l1 h1) (Evt.pos rfl (Evt.bind (toIntS_ev l2 h2) (Evt.bind (eqIntS_same l2 h2) (Evt.pos rfl (Evt.ok _))))))))))
end Go.Proofs.Ytffdacmdgfpnmaa.Pure
