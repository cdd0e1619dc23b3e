/- The plain statement on GiversOf: what the program returns is what the reference returns. -/
import Derived.Test.YtdcbieganlmniaaF18
import Derived.Test.YtdcbieganlmniaaGiversOf
import Derived.Test.YtdcbieganlmniaaNetMark
namespace Go.Proofs.Ytdcbieganlmniaa.Pure
open Go.RowKit Go.Proofs.Ytdcbieganlmniaa.F Go.Proofs.Ytdcbieganlmniaa.Lib Go.Proofs.YtdcbieganlmniaaW.PrintWords Go.Proofs.YtdcbieganlmniaaW.PrintLast
theorem FnExactGiversOf : laws_FnExactGiversOf.Pure := by
  intro p l x1 hw _
  refine Evt.get ?_
  obtain ⟨r, hr, gr⟩ := szNet_ex p l 1048576 (by omega) (by omega) hw.2.1 (fun t ht => ⟨(hw.2.2 t ht).1.1, (hw.2.2 t ht).2.1.1, (hw.2.2 t ht).2.2.1⟩)
  unfold laws_FnExactGiversOf.f
  refine Evt.bind hr ?_
  by_cases c : r < 0
  · exact Evt.pos c (Evt.ok _)
  have hs : SmallN (l.map toT) := (gr (by omega)).2
  obtain ⟨⟨g, b0⟩, hx, hy, hg⟩ := core_GiversOf p (l.map toT) x1 hs
  have hg' : g.length ≤ 17592186044415 := hg
  obtain ⟨m, hm, hm'⟩ := markNet_ev p (l.map toT) hs 1 (by omega)
  refine Evt.neg c (Evt.bind (toNet_ev p l hs) (Evt.bind hx (Evt.bind (toNet_ev p l hs) (Evt.bind hy (Evt.bind (eqIntS_same g hg) (Evt.pos rfl (Evt.step ?_)))))))
  simp only [laws_FnExactGiversOf.j0]
  refine Evt.neg (by simp) (Evt.bind (toNet_ev p l hs) (Evt.bind (eqNet_same p _ hs) (Evt.pos rfl (?_))))
  refine Evt.bind hm (Evt.neg (by omega) (Evt.bind (eqIntS_same g hg) (Evt.pos rfl (Evt.step ?_))))
  simp only [laws_FnExactGiversOf.j1]
  refine Evt.neg (by simp) (Evt.bind (markIntS_ev g 1 (by omega)) (Evt.bind (heldIntS_ev 1 g.length (by omega)) ?_))
  refine Evt.neg (by omega) (Evt.pos rfl (Evt.bind (toNet_ev p l hs) (Evt.bind hy (Evt.bind (eqIntS_same g hg) (Evt.pos rfl (Evt.step ?_))))))
  simp only [laws_FnExactGiversOf.j2]
  exact Evt.neg (by simp) (Evt.bind (heldIntS_ev 1 g.length (by omega)) (Evt.neg (by omega) (Evt.pos rfl (Evt.ok _))))
end Go.Proofs.Ytdcbieganlmniaa.Pure
