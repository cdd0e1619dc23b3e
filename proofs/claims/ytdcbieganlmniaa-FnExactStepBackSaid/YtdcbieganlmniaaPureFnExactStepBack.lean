/- The plain statement on StepBack: what the program returns is what the reference returns. -/
import Derived.Test.YtdcbieganlmniaaF13
import Derived.Test.YtdcbieganlmniaaStepBack
import Derived.Test.YtdcbieganlmniaaNetMark
namespace Go.Proofs.Ytdcbieganlmniaa.Pure
open Go.RowKit Go.Proofs.Ytdcbieganlmniaa.F Go.Proofs.Ytdcbieganlmniaa.Lib Go.Proofs.YtdcbieganlmniaaW.PrintWords Go.Proofs.YtdcbieganlmniaaW.PrintLast
theorem FnExactStepBack : laws_FnExactStepBack.Pure := by
  intro p l x1 x2 hw _ _
  refine Evt.get ?_
  obtain ⟨r, hr, gr⟩ := szNet_ex p l 1048576 (by omega) (by omega) hw.2.1 (fun t ht => ⟨(hw.2.2 t ht).1.1, (hw.2.2 t ht).2.1.1, (hw.2.2 t ht).2.2.1⟩)
  unfold laws_FnExactStepBack.f
  by_cases hb1 : (x2.length : Int) > 1048576
  · exact Evt.pos hb1 (Evt.ok _)
  have h2 : Short x2 := by show x2.length ≤ _; omega
  refine Evt.neg hb1 (Evt.bind hr ?_)
  by_cases c : r < 0
  · exact Evt.pos c (Evt.ok _)
  have hs : SmallN (l.map toT) := (gr (by omega)).2
  obtain ⟨⟨g0, b0⟩, hx, hy, hg0⟩ := core_StepBack p (l.map toT) x1 x2 hs h2
  have hg0' : g0.length ≤ 17592186044415 := hg0
  obtain ⟨m, hm, hm'⟩ := markNet_ev p (l.map toT) hs 1 (by omega)
  refine Evt.neg c (Evt.bind (toNet_ev p l hs) (Evt.bind (toIntS_ev x2 h2) (Evt.bind hx (Evt.bind (toNet_ev p l hs) (Evt.bind (toIntS_ev x2 h2) (Evt.bind hy (Evt.bind (eqIntS_same g0 hg0) (Evt.pos rfl (Evt.step ?_)))))))))
  simp only [laws_FnExactStepBack.j0]
  refine Evt.neg (by simp) (Evt.bind (toNet_ev p l hs) (Evt.bind (eqNet_same p _ hs) (Evt.pos rfl (Evt.bind (toIntS_ev x2 h2) (Evt.bind (eqIntS_same x2 h2) (Evt.pos rfl (?_)))))))
  refine Evt.bind hm (Evt.bind (markIntS_ev x2 (m) (by omega)) (Evt.neg (by omega) (Evt.bind (eqIntS_same g0 hg0) (Evt.pos rfl (Evt.step ?_)))))
  simp only [laws_FnExactStepBack.j1]
  refine Evt.neg (by simp) (Evt.bind (markIntS_ev g0 (1) (by omega)) (Evt.bind (heldIntS_ev (1) g0.length (by omega)) (Evt.neg (by omega) (Evt.pos rfl (Evt.bind (toNet_ev p l hs) (Evt.bind (toIntS_ev x2 h2) (Evt.bind hy (Evt.bind (eqIntS_same g0 hg0) (Evt.pos rfl (Evt.step ?_))))))))))
  simp only [laws_FnExactStepBack.j2]
  exact Evt.neg (by simp) (Evt.bind (heldIntS_ev (1) g0.length (by omega)) (Evt.neg (by omega) (Evt.pos rfl (Evt.ok _))))
end Go.Proofs.Ytdcbieganlmniaa.Pure
