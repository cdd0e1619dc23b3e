/- The plain statement on IsFreeChoice: what the program returns is what the reference returns. -/
import Derived.Test.YtdcbieganlmniaaF7
import Derived.Test.YtdcbieganlmniaaF8
import Derived.Test.YtdcbieganlmniaaFree
namespace Go.Proofs.Ytdcbieganlmniaa.Pure
open Go.RowKit Go.Proofs.Ytdcbieganlmniaa.F Go.Proofs.Ytdcbieganlmniaa.Lib Go.Proofs.YtdcbieganlmniaaW.PrintWords Go.Proofs.YtdcbieganlmniaaW.PrintLast
theorem FnExactIsFreeChoice : laws_FnExactIsFreeChoice.Pure := by
  intro p l hw
  refine Evt.get ?_
  obtain ⟨r, hr, g⟩ := szNet_ex p l 1048576 (by omega) (by omega) hw.2.1 (fun t ht => ⟨(hw.2.2 t ht).1.1, (hw.2.2 t ht).2.1.1, (hw.2.2 t ht).2.2.1⟩)
  unfold laws_FnExactIsFreeChoice.f
  refine Evt.bind hr ?_
  by_cases c : r < 0
  · exact Evt.pos c (Evt.ok _)
  have hs : SmallN (l.map toT) := (g (by omega)).2
  have hb : ∃ x, Evt (fun k => spec_IsFreeChoice.f k p (l.map toT)) x ∧ Evt (fun k => impl_IsFreeChoice.f k p (l.map toT)) x := by
    unfold spec_IsFreeChoice.f impl_IsFreeChoice.f
    cases hg : goodNet p (l.map toT) with
    | false => exact ⟨_, Evt.bind ((specGoodNet_ev p _ hs).cast hg) (Evt.neg (by decide) (Evt.ok _)), Evt.bind ((goodNet_ev p _ hs).cast hg) (Evt.neg (by decide) (Evt.ok _))⟩
    | true => exact ⟨_, Evt.bind ((specGoodNet_ev p _ hs).cast hg) (Evt.pos rfl (specFree_ev _ p hs)), Evt.bind ((goodNet_ev p _ hs).cast hg) (Evt.pos rfl ((implFree_ev _ p hs).cast (by rw [free_same])))⟩
  obtain ⟨⟨x1, x2⟩, hx, hy⟩ := hb
  refine Evt.neg c (Evt.bind (toNet_ev p l hs) (Evt.bind hx (Evt.bind (toNet_ev p l hs) (Evt.bind hy ?_))))
  refine Evt.neg (by simp) (Evt.step ?_)
  simp only [laws_FnExactIsFreeChoice.j0]
  exact Evt.neg (by simp) (Evt.bind (toNet_ev p l hs) (Evt.bind (eqNet_same p _ hs) (Evt.pos rfl (Evt.ok _))))
end Go.Proofs.Ytdcbieganlmniaa.Pure
