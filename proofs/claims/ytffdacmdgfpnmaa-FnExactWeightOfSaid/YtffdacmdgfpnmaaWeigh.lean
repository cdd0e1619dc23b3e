/- Weights on places: the tests, and sums of weights over places. -/
import Derived.Test.YtffdacmdgfpnmaaF7
import Derived.Test.YtffdacmdgfpnmaaPlain
import Derived.Test.YtffdacmdgfpnmaaAll
namespace Go.Proofs.Ytffdacmdgfpnmaa.Lib
open Go.RowKit Go.Proofs.Ytffdacmdgfpnmaa.F Go.Proofs.YtffdacmdgfpnmaaW.PrintWords Go.Proofs.YtffdacmdgfpnmaaW.PrintLast Go.Proofs.YtffdacmdgfpnmaaW.PrintMore
set_option linter.unusedVariables false
set_option linter.unusedSimpArgs false
def weights (p : Int) (ts : List Tr) (w : List Int) : Bool := plain p ts && (decide ((w.length : Int) = p) && allIn w (-9) 9)
theorem l7Weights_ev (p : Int) (ts : List Tr) (w : List Int) (h : SmallN ts) (hw : Short w) : Evt (fun k => spec_l7Weights.f k p ts w) (weights p ts w) := by
  unfold spec_l7Weights.f weights
  cases hg : plain p ts with
  | false => exact Evt.bind ((l7Plain_ev p ts h).cast hg) (Evt.neg (by decide) (Evt.ok _))
  | true =>
    refine Evt.bind ((l7Plain_ev p ts h).cast hg) (Evt.pos rfl ?_)
    by_cases hl : (w.length : Int) = p
    · exact Evt.pos hl (Evt.bind (l1All_ev w _ _ hw) ((Evt.ok _).cast (by rw [decide_eq_true hl]; simp)))
    · exact Evt.neg hl ((Evt.ok _).cast (by rw [decide_eq_false hl]; rfl))
theorem areWeights_ev (p : Int) (ts : List Tr) (w : List Int) (h : SmallN ts) (hw : Short w) : Evt (fun k => impl_areWeights.f k p ts w) (weights p ts w) := by
  unfold impl_areWeights.f weights
  cases hg : plain p ts with
  | false => exact Evt.bind ((isPlain_ev p ts h).cast hg) (Evt.neg (by decide) (Evt.ok _))
  | true =>
    refine Evt.bind ((isPlain_ev p ts h).cast hg) (Evt.pos rfl ?_)
    by_cases hl : (w.length : Int) = p
    · exact Evt.pos hl (Evt.bind (allWithin_ev w _ _ hw) ((Evt.ok _).cast (by rw [decide_eq_true hl]; simp)))
    · exact Evt.neg hl ((Evt.ok _).cast (by rw [decide_eq_false hl]; rfl))
theorem weights_facts {p : Int} {ts : List Tr} {w : List Int} (h : weights p ts w = true) : goodNet p ts = true ∧ (w.length : Int) = p ∧ ∀ x ∈ w, -9 ≤ x ∧ x ≤ 9 := by
  simp only [weights, Bool.and_eq_true, decide_eq_true_eq] at h
  exact ⟨plain_good h.1, h.2.1, allIn_le h.2.2⟩
end Go.Proofs.Ytffdacmdgfpnmaa.Lib
