/- The plain statement on FireAll: what the program returns is what the reference returns. -/
import Derived.Test.YtdcbieganlmniaaF10
import Derived.Test.YtdcbieganlmniaaFireAll
import Derived.Test.YtdcbieganlmniaaNetMark
namespace Go.Proofs.Ytdcbieganlmniaa.Pure
open Go.RowKit Go.Proofs.Ytdcbieganlmniaa.F Go.Proofs.Ytdcbieganlmniaa.Lib Go.Proofs.YtdcbieganlmniaaW.PrintWords Go.Proofs.YtdcbieganlmniaaW.PrintLast
theorem FnExactFireAll : laws_FnExactFireAll.Pure := by
  intro p l x1 x2 hw _ _
  refine Evt.get ?_
  obtain ⟨r, hr, gr⟩ := szNet_ex p l 1048576 (by omega) (by omega) hw.2.1 (fun t ht => ⟨(hw.2.2 t ht).1.1, (hw.2.2 t ht).2.1.1, (hw.2.2 t ht).2.2.1⟩)
  unfold laws_FnExactFireAll.f
  by_cases hb1 : (x1.length : Int) > 1048576
  · exact Evt.pos hb1 (Evt.ok _)
  by_cases hb2 : (x2.length : Int) > 1048576
  · exact Evt.neg hb1 (Evt.pos hb2 (Evt.ok _))
  have h1 : Short x1 := by show x1.length ≤ _; omega
  have h2 : Short x2 := by show x2.length ≤ _; omega
  refine Evt.neg hb1 (Evt.neg hb2 (Evt.bind hr ?_))
  by_cases c : r < 0
  · exact Evt.pos c (Evt.ok _)
  have hs : SmallN (l.map toT) := (gr (by omega)).2
  obtain ⟨⟨g0, b0, b1⟩, hx, hy, hg0⟩ := core_FireAll p (l.map toT) x1 x2 hs h1 h2
  have hg0' : g0.length ≤ 17592186044415 := hg0
  obtain ⟨m, hm, hm'⟩ := markNet_ev p (l.map toT) hs 1 (by omega)
  refine Evt.neg c (Evt.bind (toNet_ev p l hs) (Evt.bind (toIntS_ev x1 h1) (Evt.bind (toIntS_ev x2 h2) (Evt.bind hx (Evt.bind (toNet_ev p l hs) (Evt.bind (toIntS_ev x1 h1) (Evt.bind (toIntS_ev x2 h2) (Evt.bind hy (Evt.bind (eqIntS_same g0 hg0) (Evt.pos (by first | rfl | trivial) (Evt.pos (by first | rfl | trivial) (Evt.step ?_))))))))))))
  simp only [laws_FnExactFireAll.j0]
  refine Evt.neg (by simp) (Evt.bind (toNet_ev p l hs) (Evt.bind (eqNet_same p _ hs) (Evt.pos (by first | rfl | trivial) (Evt.bind (toIntS_ev x1 h1) (Evt.bind (eqIntS_same x1 h1) (Evt.pos (by first | rfl | trivial) (Evt.bind (toIntS_ev x2 h2) (Evt.bind (eqIntS_same x2 h2) (Evt.pos (by first | rfl | trivial) (?_))))))))))
  refine Evt.bind hm (Evt.bind (markIntS_ev x1 (m) (by omega)) (Evt.bind (markIntS_ev x2 (m + x1.length) (by omega)) (Evt.neg (by omega) (Evt.bind (eqIntS_same g0 hg0) (Evt.pos (by first | rfl | trivial) (Evt.pos (by first | rfl | trivial) (Evt.step ?_)))))))
  simp only [laws_FnExactFireAll.j1]
  refine Evt.neg (by simp) (Evt.bind (markIntS_ev g0 (1) (by omega)) (Evt.bind (heldIntS_ev (1) g0.length (by omega)) (Evt.neg (by omega) (Evt.pos (by first | rfl | trivial) (Evt.bind (toNet_ev p l hs) (Evt.bind (toIntS_ev x1 h1) (Evt.bind (toIntS_ev x2 h2) (Evt.bind hy (Evt.bind (eqIntS_same g0 hg0) (Evt.pos (by first | rfl | trivial) (Evt.pos (by first | rfl | trivial) (Evt.step ?_))))))))))))
  simp only [laws_FnExactFireAll.j2]
  exact Evt.neg (by simp) (Evt.bind (heldIntS_ev (1) g0.length (by omega)) (Evt.neg (by omega) (Evt.pos (by first | rfl | trivial) (Evt.ok _))))
end Go.Proofs.Ytdcbieganlmniaa.Pure
